/- Part 2 of a proof: the texts MirH MirI MirJ MirK, one behind the other. -/
import Derived.Test.YtiahkjjfhnfdiaaGreatDoorSf1
import Derived.Lib.UnsafeStr
import Derived.MapKept
namespace Go.Proofs.YtiahkjjfhnfdiaaGreatDoor.Mir
open Go Go.RowKit
noncomputable section
section
variable {P : Program} {E : Env P} {w : World} {ro : Nat → Nat → Prop} {ι : Nat → Option Gh} {S : ASt E} {asm : List (Nat × Bool)} {a : Act}
theorem TRep.cells {v : Value} {t : E.Ty} {x : E.Den t} (h : TRep E w ro v t x) : RowRep E w ro v.cells (E.cells t x) := by
  rcases h with ⟨ha, vs, rfl, hrow⟩ | ⟨ha, c, hc, hd⟩
  · exact hrow
  · rw [Value.cells_one hd.one, hc]
    refine ⟨rfl, fun j u e hu he => ?_⟩
    cases j with
    | zero => simp at hu he; subst hu; subst he; exact hd
    | succ j => simp at he
theorem fill_seq (t : E.Ty) : ∀ (ps : List (Nat × Value)) (qs : List (Nat × AV E)) (k : Nat) (xs : List (E.Den t)) (C : Array Value), ps.length = qs.length →
    (∀ (i : Nat) p q, ps[i]? = some p → qs[i]? = some q → p.1 = q.1 ∧ Rep E w ro ι p.2 q.2) → partsD t k qs = some xs → (k + xs.length) * E.size t ≤ C.size →
    ∃ D, Instr.fill (fun i => some (i * E.size t, E.size t)) C ps = some D ∧ D.size = C.size ∧ (∀ q, q < k * E.size t → D[q]? = C[q]?) ∧
      ∀ (i : Nat) x (j : Nat) c, xs[i]? = some x → (E.cells t x)[j]? = some c → ∃ u, D[(k + i) * E.size t + j]? = some u ∧ DRep E w ro u c
  | [], [], k, xs, C, _, _, h, _ => by
    cases h
    exact ⟨C, rfl, rfl, fun _ _ => rfl, fun i x j c hi => by simp at hi⟩
  | p :: ps, q :: qs, k, xs, C, hl, hpq, h, hC => by
    obtain ⟨i, v⟩ := p
    obtain ⟨i', x⟩ := q
    obtain ⟨h1, h2⟩ := hpq 0 _ _ rfl rfl
    simp only at h1 h2
    subst h1
    unfold partsD at h
    split at h
    · rename_i hk
      have hk := Nat.eq_of_beq_eq_true hk
      subst hk
      cases hf : foldA t x with
      | none => rw [hf] at h; cases h
      | some y =>
        rw [hf] at h
        cases hr : partsD t (i + 1) qs with
        | none => rw [hr] at h; cases h
        | some ys =>
          rw [hr] at h
          cases h
          have hrow := (foldA_rep h2 hf).cells
          have hvs : v.cells.size = E.size t := hrow.1.trans (E.cells_len t y)
          obtain ⟨f1, f2⟩ := set_fold (i * E.size t) v.cells.toList 0 C
          have e : (v.cells.zipIdx.foldl (fun cs (c, j) => cs.setIfInBounds (i * E.size t + j) c) C) = ((v.cells.toList.zipIdx 0).foldl (fun (cs : Array Value) p => cs.setIfInBounds (i * E.size t + p.2) p.1) C) := by
            rw [← Array.foldl_toList, Array.toList_zipIdx]
          simp only [List.length_cons] at hC
          have hC1 : (i + 1) * E.size t ≤ C.size := Nat.le_trans (Nat.mul_le_mul_right _ (by omega)) hC
          have hsucc : (i + 1) * E.size t = i * E.size t + E.size t := Nat.succ_mul _ _
          obtain ⟨D, hD, hDs, hD1, hD2⟩ := fill_seq t ps qs (i + 1) ys _ (by simpa using hl) (fun i p q hp hq => hpq (i + 1) p q (by simpa using hp) (by simpa using hq)) hr
            (show (i + 1 + ys.length) * E.size t ≤ ((v.cells.toList.zipIdx 0).foldl (fun (cs : Array Value) p => cs.setIfInBounds (i * E.size t + p.2) p.1) C).size by
              rw [f1]; exact Nat.le_trans (Nat.mul_le_mul_right _ (by omega)) hC)
          refine ⟨D, ?_, hDs.trans f1, fun q hq => ?_, fun n x' j c hx hc => ?_⟩
          · unfold Instr.fill
            simp only
            rw [if_neg (by simp; omega), e]
            exact hD
          · rw [hD1 q (by omega), f2 q, if_neg (by omega)]
          · have hj : j < E.size t := by rw [← E.cells_len t x']; exact (List.getElem?_eq_some_iff.1 hc).1
            cases n with
            | zero =>
              simp at hx
              subst hx
              rw [Nat.add_zero, hD1 _ (by omega), f2, if_pos (by simp; omega)]
              have hjv : j < v.cells.size := by omega
              refine ⟨v.cells[j], ?_, hrow.2 j _ c (Array.getElem?_eq_getElem hjv) hc⟩
              rw [show i * E.size t + j - i * E.size t - 0 = j from by omega]
              simp [hjv]
            | succ n =>
              obtain ⟨u, hu, hd⟩ := hD2 n x' j c (by simpa using hx) hc
              exact ⟨u, by rw [show i + (n + 1) = i + 1 + n from by omega]; exact hu, hd⟩
    · cases h
  | [], _ :: _, _, _, _, hl, _, _, _ => by simp at hl
  | _ :: _, [], _, _, _, hl, _, _, _ => by simp at hl
theorem OpPost.roBlock (c : Ctx E S asm a w ι ro) (ob : Obj) (val : Value) (x : AV E) (hv : Rep E (w.alloc ob) (fun k o => ro k o ∨ k = w.heap.size) ι val x) :
    OpPost E w (w.alloc ob) ι ι ro (fun k o => ro k o ∨ k = w.heap.size) S.next (.pure x) val where
  os := rfl
  tape := rfl
  output := rfl
  size := by simp
  frame := fun k hk _ => heap_alloc_old w _ hk
  cell := fun k o h => cell_alloc w _ (c.rolt k o h) o
  mono := fun _ _ h => .inl h
  rolt := fun k o h => by
    rcases h with h | h
    · have := c.rolt k o h; simp; omega
    · simp; omega
  fresh := fun k o h => by
    rcases h with h | h
    · exact .inl h
    · exact .inr (.inl (by omega))
  iold := fun _ _ => rfl
  inew := fun gh k h => by rw [c.fresh] at h; cases h
  nonew := fun _ => rfl
  upd := fun id o h => by cases h
  new := fun o h => by cases h
  val := hv
theorem done_buildSlice (c : Ctx E S asm a w ι ro) {o : Oper} {T : TypeId} {n : Nat} {ps : Array (Nat × Operand)} (ho : o.op = .buildSlice T n ps) {r : AV E} (h : evBuildSlice T n (partsA S.tmps asm ps) = some r) :
    OpDone E o a w ι ro S.next (.pure r) := by
  unfold evBuildSlice at h
  split at h
  · rename_i e he
    split at h
    · rename_i t ht
      have htid := E.code_ok e t ht
      subst htid
      split at h
      · rename_i xs hxs
        split at h
        · rename_i hcond
          obtain ⟨hn, hmax⟩ := hcond
          cases h
          subst hn
          obtain ⟨i, z, hi, his, hib, hz, hzs⟩ := E.info_ok t
          have hu := elemT_inv he
          have hrel := parts_rel c ps
          let zs : Array Value := if xs.length * E.size t = 0 then #[] else z.cells
          let C : Array Value := (Array.range (xs.length * E.size t)).map (zs[· % zs.size]!)
          have hCs : C.size = xs.length * E.size t := by simp [C]
          obtain ⟨D, hD, hDs, _, hD2⟩ := fill_seq (w := w) (ro := ro) (ι := ι) t (ps.map fun (i, x) => (i, a.eval x)).toList (partsA S.tmps asm ps) 0 xs C (by simp [partsA]) hrel hxs (by rw [hCs, Nat.zero_add]; exact Nat.le_refl _)
          refine .inl ⟨.slice (some ⟨w.heap.size, 0, none⟩) xs.length xs.length, w.alloc (.cells D (E.tid t)), ι, fun k o => ro k o ∨ k = w.heap.size, ?_, ?_⟩
          · have h24 : ¬ (xs.length * E.size t > 2 ^ 24) := by omega
            simp only [execOp, ho, Instr.buildSlice]
            simp only [Sem.run_bind, run_underlying hu, Result.andThen_ok, run_size_tid, if_neg h24]
            have hD' : Instr.fill (fun i => some (i * E.size t, E.size t)) ((Array.range (xs.length * E.size t)).map (zs[· % zs.size]!)) (ps.map fun (i, x) => (i, a.eval x)).toList = some D := hD
            by_cases h0 : xs.length * E.size t = 0
            · have e0 : zs = #[] := if_pos h0
              rw [e0] at hD'
              rw [if_pos h0]
              simp only [Sem.run_bind, Sem.run_pure, Result.andThen_ok]
              rw [hD']
              simp [newRow]
            · have e0 : zs = z.cells := if_neg h0
              rw [e0] at hD'
              have hzv : (zeroValue (E.tid t)).run P w = .ok z w := by simp [zeroValue, typeInfo, hi, hz]
              rw [if_neg h0]
              simp only [Sem.run_bind, hzv, Sem.run_pure, Result.andThen_ok]
              rw [hD']
              simp [newRow]
          · refine OpPost.roBlock c _ _ _ (.d _ _ ?_)
            refine .slice t xs w.heap.size 0 xs.length (fun i j => (D[i * E.size t + j]?).getD undef) (Nat.le_refl _) (fun i x j cc hx hc => ?_) (fun i x j cc hx hc => ?_)
            · obtain ⟨u, hu1, hd⟩ := hD2 i x j cc hx hc
              simp only [Nat.zero_add] at hu1 ⊢
              refine ⟨.inr trivial, ?_⟩
              rw [cell_of_row (w.alloc (.cells D (E.tid t))) w.heap.size _ D (E.tid t) (0, 0) (heap_alloc_new w _), hu1]
              rfl
            · obtain ⟨u, hu1, hd⟩ := hD2 i x j cc hx hc
              simp only [Nat.zero_add] at hu1
              simp only [hu1, Option.getD_some]
              exact hd.mono (fun _ _ h => .inl h) (fun k o h => cell_alloc w _ (c.rolt k o h) o)
        · cases h
      · cases h
    · cases h
  · cases h
theorem done_buildBox (c : Ctx E S asm a w ι ro) {o : Oper} {T : TypeId} {n : Nat} {ps : Array (Nat × Operand)} (ho : o.op = .buildSlice T n ps) {r : Res E} (h : evBuildBox S.next T n (partsA S.tmps asm ps) = some r) :
    OpDone E o a w ι ro S.next r := by
  unfold evBuildBox at h
  split at h
  · rename_i e he
    split at h
    · rename_i i hi
      split at h
      · rename_i z hz
        split at h
        · rename_i cs hcs
          split at h
          · rename_i hc
            cases h
            simp only [Bool.and_eq_true, Bool.not_eq_true'] at hc
            obtain ⟨h1, h2, h3⟩ := hc
            have h1 := Nat.le_of_ble_eq_true h1
            have h0 : ¬ n * i.size = 0 := fun e => by rw [e] at h2; cases h2
            have hu := elemT_inv he
            obtain ⟨D, hD, hrel⟩ := fill_rel (w := w) (ro := ro) (ι := ι) (fun _ _ h => h) (ps.map fun (i, x) => (i, a.eval x)).toList (partsA S.tmps asm ps) ((Array.range (n * i.size)).map (z.cells[· % z.cells.size]!)) _ cs (by simp [partsA]) (parts_rel c ps)
              (show Rel E w ro ι _ _ from ⟨by simp, fun j v x hv hx => by
                rw [List.getElem?_map] at hx
                rw [Array.getElem?_map] at hv
                by_cases hj : j < n * i.size
                · rw [List.getElem?_range hj] at hx
                  rw [Array.getElem?_range, if_pos hj] at hv
                  cases hv; cases hx
                  exact constS_rep _
                · rw [List.getElem?_eq_none (by simp; omega)] at hx
                  cases hx⟩) hcs
            have hp := OpPost.box c D e cs hrel.1 fun j v x hv hx => by
              have hr := hrel.2 j v x hv hx
              exact ⟨cellOk_one (allOk_at h3 j x hx) hr, hr⟩
            refine .inl ⟨_, _, _, _, ?_, hp.withV (x := .bsl n S.next) (val' := .slice (some ⟨w.heap.size, 0, none⟩) n n) (.bsl ⟨.pointer (some ⟨w.heap.size, 0, none⟩), 0, e, 0, some w.heap.size⟩ _ _ _ _ (if_pos rfl) rfl)⟩
            have h24 : ¬ (n * i.size > 2 ^ 24) := by omega
            have hzv : (zeroValue e).run P w = .ok z w := by simp [zeroValue, typeInfo, hi, hz]
            simp only [execOp, ho, Instr.buildSlice]
            simp only [Sem.run_bind, run_underlying hu, Result.andThen_ok, run_sizeOf hi, if_neg h24, if_neg h0, hzv, Sem.run_pure]
            rw [hD]
            simp [newRow]
          · cases h
        · cases h
      · cases h
    · cases h
  · cases h
theorem mkFn_rep {f : FuncId} {vs us : Array Value} {x y : List (AV E)} (h1 : vs.size = x.length) (h2 : us.size = y.length) (h3 : ∀ (j : Nat) v c, vs[j]? = some v → x[j]? = some c → Rep E w ro ι v c) (h4 : ∀ (j : Nat) v c, us[j]? = some v → y[j]? = some c → Rep E w ro ι v c) : Rep E w ro ι (.func (.func f) vs us) (mkFn f x y) := by
  cases x with
  | cons a x => exact .fn f vs us _ _ h1 h2 h3 h4
  | nil =>
    cases y with
    | cons b y => exact .fn f vs us _ _ h1 h2 h3 h4
    | nil =>
      obtain rfl := Array.eq_empty_of_size_eq_zero h1
      obtain rfl := Array.eq_empty_of_size_eq_zero h2
      exact .d _ _ (.raw _ rfl)
theorem argsA_rep (c : Ctx E S asm a w ι ro) (ps : Array Operand) : ∀ (i : Nat) v x, (ps.map a.eval)[i]? = some v → (argsA S.tmps asm ps)[i]? = some x → Rep E w ro ι v x := by
  intro i v x hv hx
  unfold argsA at hx
  rw [List.getElem?_map] at hx
  rw [Array.getElem?_map] at hv
  cases hi : ps[i]? with
  | none => rw [hi] at hv; cases hv
  | some y =>
    have hi' : ps.toList[i]? = some y := by simpa using hi
    rw [hi] at hv
    rw [hi'] at hx
    cases hv; cases hx
    exact c.get y
theorem done_makeFunc (c : Ctx E S asm a w ι ro) {o : Oper} {f : FuncId} {x y : Array Operand} (ho : o.op = .makeFunc (.func f) x y) : OpDone E o a w ι ro S.next (.pure (mkFn f (argsA S.tmps asm x) (argsA S.tmps asm y))) :=
  c.pure (val := .func (.func f) (x.map a.eval) (y.map a.eval)) (by simp [execOp, ho, Instr.makeFunc]) (mkFn_rep (by simp [argsA]) (by simp [argsA]) (argsA_rep c x) (argsA_rep c y))
theorem DRep.row {v : Value} {t : E.Ty} {l : List (E.Den t)} (h : DRep E w ro v (.slice t l)) : ∃ (ad : Option Addr) (cap : Nat) (news : List Value), v = .slice ad l.length cap ∧ news.length = l.length * E.size t ∧ (ad = none → l.length = 0) ∧
    (∀ a, ad = some a → ∀ j u, news[j]? = some u → w.cell? (a.add j) = some u) ∧ (∀ u ∈ news, u.oneCell' = true) ∧
    (∀ (i : Nat) x (j : Nat) c, l[i]? = some x → (E.cells t x)[j]? = some c → ∃ u, news[i * E.size t + j]? = some u ∧ DRep E w ro u c) := by
  obtain ⟨ad, cap, rfl, hd⟩ := h.slice_inv
  rcases hd with rfl | ⟨g, off, rfl, hcap, f, f1, f2⟩
  · exact ⟨ad, cap, [], rfl, by simp, fun _ => rfl, fun a _ j u hu => by simp at hu, fun u hu => by simp at hu, fun i x j c hi => by simp at hi⟩
  · have hpos := E.size_pos t
    have hmem : ∀ q, q < l.length * E.size t → ∃ x c, l[q / E.size t]? = some x ∧ (E.cells t x)[q % E.size t]? = some c := by
      intro q hq
      have h1 : q / E.size t < l.length := Nat.div_lt_of_lt_mul (by rw [Nat.mul_comm]; exact hq)
      have h2 : q % E.size t < (E.cells t l[q / E.size t]).length := by rw [E.cells_len]; exact Nat.mod_lt _ hpos
      exact ⟨_, _, List.getElem?_eq_getElem h1, List.getElem?_eq_getElem h2⟩
    refine ⟨_, cap, (List.range (l.length * E.size t)).map fun q => f (q / E.size t) (q % E.size t), rfl, by simp, (fun h => by cases h), fun a ha j u hu => ?_, fun u hu => ?_, fun i x j c hi hc => ?_⟩
    · cases ha
      have hj : j < l.length * E.size t := by have := (List.getElem?_eq_some_iff.1 hu).1; simpa using this
      simp [hj] at hu
      obtain ⟨x, c, hx, hc⟩ := hmem j hj
      have := (f1 _ x _ c hx hc).2
      rw [Nat.add_assoc, show j / E.size t * E.size t + j % E.size t = j from by rw [Nat.mul_comm]; exact Nat.div_add_mod j _] at this
      rw [add_none, this, hu]
    · simp only [List.mem_map, List.mem_range] at hu
      obtain ⟨q, hq, rfl⟩ := hu
      obtain ⟨x, c, hx, hc⟩ := hmem q hq
      exact (f2 _ x _ c hx hc).one
    · have hj : j < E.size t := by rw [← E.cells_len t x]; exact (List.getElem?_eq_some_iff.1 hc).1
      have hi' : i < l.length := (List.getElem?_eq_some_iff.1 hi).1
      have hq : i * E.size t + j < l.length * E.size t := by
        have := Nat.mul_le_mul_right (E.size t) (show i + 1 ≤ l.length by omega)
        rw [Nat.succ_mul] at this
        omega
      have e1 : (i * E.size t + j) / E.size t = i := by rw [Nat.mul_comm, Nat.mul_add_div hpos]; simp [Nat.div_eq_of_lt hj]
      have e2 : (i * E.size t + j) % E.size t = j := by rw [Nat.mul_comm, Nat.mul_add_mod]; exact Nat.mod_eq_of_lt hj
      exact ⟨f i j, by simp [hq, e1, e2], f2 i x j c hi hc⟩
theorem rowD_of_slice {v : Value} {t : E.Ty} {l : List (E.Den t)} {xs : List Value} {b : Option Nat}
    (hown : (w.ownsRow 0 (E.tid t) (E.size t) v l.length xs ∧ b = v.ownBlock) ∨ (l.length = 0 ∧ xs = [] ∧ b = none ∧ ∃ ad, v = .slice ad 0 0)) (hd1 : DRep E w ro v (.slice t l)) : RowD E w ro t xs l := by
  intro i x j c hx hc
  obtain ⟨ad1, cap1, hv, hd⟩ := hd1.slice_inv
  rcases hd with rfl | ⟨g, off, rfl, _, f, f1, f2⟩
  · simp at hx
  · have hi' : i < l.length := (List.getElem?_eq_some_iff.1 hx).1
    rcases hown with ⟨hown, _⟩ | ⟨h0, _⟩
    · have hcell := (f1 i x j c hx hc).2
      have hj : j < E.size t := by rw [← E.cells_len t x]; exact (List.getElem?_eq_some_iff.1 hc).1
      have hq : i * E.size t + j < xs.length := by
        rw [hown.1]
        have := Nat.mul_le_mul_right (E.size t) (show i + 1 ≤ l.length by omega)
        rw [Nat.succ_mul] at this
        omega
      have hoff : off = 0 := by
        rcases hown.2 with ⟨h0, _⟩ | ⟨g', cap', cur, h0, _⟩
        · rw [h0] at hv; cases hv
        · rw [h0] at hv; cases hv; rfl
      subst hoff
      have := hown.cells (g := g) (by rw [hv]; rfl) _ _ (List.getElem?_eq_getElem hq)
      rw [add_none, ← Nat.add_assoc, hcell] at this
      exact ⟨f i j, by rw [List.getElem?_eq_getElem hq]; exact this.symm, f2 i x j c hx hc⟩
    · omega
theorem slice_of_rowD {v : Value} {t : E.Ty} {l : List (E.Den t)} {xs : List Value} {b : Option Nat} (hown : (w.ownsRow 0 (E.tid t) (E.size t) v l.length xs ∧ b = v.ownBlock) ∨ (l.length = 0 ∧ xs = [] ∧ b = none ∧ ∃ ad, v = .slice ad 0 0))
    (hro : ∀ g o, b = some g → o < l.length * E.size t → ro g o) (hrow : RowD E w ro t xs l) : DRep E w ro v (.slice t l) := by
  rcases hown with ⟨hown, rfl⟩ | ⟨h0, _, _, ad, rfl⟩
  · rcases hown.2 with ⟨h0, hn⟩ | ⟨g', cap', cur, h0, _, hg, hnc', _, hcs, htake⟩
    · have e1 : l = [] := List.eq_nil_of_length_eq_zero hn
      rw [h0, e1]
      exact .nil _ _ _
    · have := DRep.slice (E := E) (w := w) (ro := ro) t l g' 0 cap' (fun i j => (xs[i * E.size t + j]?).getD undef) hnc'
        (fun i x j cc hx hc => by
          obtain ⟨u, hu, hd⟩ := hrow i x j cc hx hc
          simp only [Nat.zero_add]
          refine ⟨hro g' _ (by rw [h0]; rfl) (by rw [← hown.1]; exact (List.getElem?_eq_some_iff.1 hu).1), ?_⟩
          have := hown.cells (g := g') (by rw [h0]; rfl) _ _ hu
          rw [add_none, Nat.zero_add] at this
          rw [this, hu]
          rfl)
        (fun i x j cc hx hc => by
          obtain ⟨u, hu, hd⟩ := hrow i x j cc hx hc
          simp only [hu, Option.getD_some]
          exact hd)
      rw [h0]
      exact this
  · have e1 : l = [] := List.eq_nil_of_length_eq_zero h0
    rw [e1]
    exact .nil _ _ _
theorem RowD.mono {w' : World} {ro' : Nat → Nat → Prop} {t : E.Ty} {xs : List Value} {l : List (E.Den t)} (hr : ∀ k o, ro k o → ro' k o) (hc : ∀ k o, ro k o → w'.cell? ⟨k, o, none⟩ = w.cell? ⟨k, o, none⟩) (h : RowD E w ro t xs l) : RowD E w' ro' t xs l :=
  fun i x j c hx hc' => by
    obtain ⟨u, hu, hd⟩ := h i x j c hx hc'
    exact ⟨u, hu, hd.mono hr hc⟩
theorem RowD.app {t : E.Ty} {xs news : List Value} {l1 l2 : List (E.Den t)} (hx : xs.length = l1.length * E.size t) (h1 : RowD E w ro t xs l1) (h2 : RowD E w ro t news l2) : RowD E w ro t (xs ++ news) (l1 ++ l2) := by
  intro i x j c hx' hc
  rcases Nat.lt_or_ge i l1.length with hi1 | hi1
  · rw [List.getElem?_append_left hi1] at hx'
    obtain ⟨u, hu, hd⟩ := h1 i x j c hx' hc
    have hlt := (List.getElem?_eq_some_iff.1 hu).1
    exact ⟨u, by rw [List.getElem?_append_left hlt]; exact hu, hd⟩
  · rw [List.getElem?_append_right hi1] at hx'
    obtain ⟨u, hu, hd⟩ := h2 (i - l1.length) x j c hx' hc
    have e1 : i * E.size t = l1.length * E.size t + (i - l1.length) * E.size t := by rw [← Nat.add_mul]; congr 1; omega
    refine ⟨u, ?_, hd⟩
    rw [List.getElem?_append_right (by rw [hx, e1]; omega), hx, e1, show l1.length * E.size t + (i - l1.length) * E.size t + j - l1.length * E.size t = (i - l1.length) * E.size t + j from by omega]
    exact hu
theorem OwnT.shape {gh : Gh} {xs : List Value} (h : OwnT w gh xs) : ∃ ad cap, gh.v = .slice ad gh.n cap ∧ (0 < gh.n → ∃ g, ad = some ⟨g, 0, none⟩) := by
  rcases h with ⟨h, _⟩ | ⟨h0, _, _, ad, h⟩
  · rcases h.2 with ⟨h1, h2⟩ | ⟨g, cap, cur, h1, _⟩
    · exact ⟨none, 0, by rw [h1, h2], fun h => by omega⟩
    · exact ⟨_, cap, h1, fun _ => ⟨g, rfl⟩⟩
  · exact ⟨ad, 0, by rw [h, h0], fun h => by omega⟩
theorem DRep.src {v : Value} {t : E.Ty} {l : List (E.Den t)} {T e' : TypeId} (h : DRep E w ro v (.slice t l)) (hT : P.underlying T = some (.slice e')) : ∃ news, Src P (E.size t) T v l.length news w ∧ RowD E w ro t news l := by
  obtain ⟨ad, cap, news, rfl, hnl, had, hnc, hn1, hnd⟩ := h.row
  cases ad with
  | none =>
    have h0 := had rfl
    have hn : news = [] := List.eq_nil_of_length_eq_zero (by rw [hnl, h0, Nat.zero_mul])
    subst hn
    exact ⟨[], by rw [h0]; exact Src.ofNil w hT cap, hnd⟩
  | some A => exact ⟨news, Src.ofSlice w hT A _ cap news hnl (hnc A rfl) hn1, hnd⟩
theorem str_src {t : E.Ty} {T : TypeId} (g : Int → E.Den t) (hg : ∀ n, E.cells t (g n) = [.int .u8 n]) (hT : P.underlying T = some .string) (s : List UInt8) :
    ∃ news, Src P (E.size t) T (.string ⟨s.toArray⟩) (s.map fun b => g (b.toNat : Int)).length news w ∧ RowD E w ro t news (s.map fun b => g (b.toNat : Int)) := by
  have h1 : E.size t = 1 := by rw [← E.cells_len t (g 0), hg]; rfl
  refine ⟨byteCells ⟨s.toArray⟩, ?_, fun i x j c hx hc => ?_⟩
  · rw [h1, List.length_map]
    exact Src.ofString w hT ⟨s.toArray⟩
  · rw [List.getElem?_map] at hx
    cases hb : s[i]? with
    | none => rw [hb] at hx; cases hx
    | some b =>
      rw [hb] at hx
      cases hx
      rw [hg] at hc
      have hj : j = 0 := by have := (List.getElem?_eq_some_iff.1 hc).1; simpa using this
      subst hj
      cases hc
      refine ⟨.int .u8 b.toNat, ?_, .int .u8 _⟩
      rw [h1, Nat.mul_one, Nat.add_zero]
      unfold byteCells
      simp [hb]
theorem append_post (c : Ctx E S asm a w ι ro) (t : E.Ty) (T T' : TypeId) (ty : TypeId) (hT : P.underlying T = some (.slice (E.tid t))) (v : Value) (l1 l2 : List (E.Den t)) (xs : List Value) (u : Value) (news : List Value) (upd : Option (Nat × AObj E)) (b : Option Nat)
    (hown : (w.ownsRow 0 (E.tid t) (E.size t) v l1.length xs ∧ b = v.ownBlock) ∨ (l1.length = 0 ∧ xs = [] ∧ b = none ∧ ∃ ad, v = .slice ad 0 0)) (hxs : RowD E w ro t xs l1)
    (hro : ∀ g, b = some g → ∀ o, l1.length * E.size t ≤ o → ¬ ro g o) (hs2 : Src P (E.size t) T' u l2.length news w) (hnd : RowD E w ro t news l2)
    (hb : (l1.length + l2.length) * E.bytes t ≤ 140737488355328) (hupd : b = none ∧ upd = none ∨ ∃ id gh, upd = some (id, .dead) ∧ ι id = some gh ∧ gh.blk = b) :
    ∃ v' w' ι' ro', (Builtin.append_ #[T, T'] ty #[v, u]).run P w = .ok v' w' ∧ OpPost E w w' ι ι' ro ro' S.next ⟨true, .grow t (l1 ++ l2) S.next, upd, some (.tail true)⟩ v' := by
  obtain ⟨i, z, hi, his, hib, hz, hzs⟩ := E.info_ok t
  have hbp := E.bytes_pos t
  have h63 : l1.length + l2.length ≤ maxLen := by
    have : l1.length + l2.length ≤ (l1.length + l2.length) * E.bytes t := Nat.le_mul_of_pos_right _ hbp
    unfold maxLen; omega
  obtain ⟨v', w', b', hrun, hown', hgrow, hat, hkept⟩ := run_append_gen (P := P) (w := w) T T' ty (E.tid t) i z hT hi hz (by rw [hzs, his]) v l1.length xs b (by rw [his]; exact hown) u l2.length news (by rw [his]; exact hs2) h63 (by rw [hib]; exact hb)
  rw [his] at hown'
  have hxl : xs.length = l1.length * E.size t := by
    rcases hown with h | ⟨h0, h1, _⟩
    · exact h.1.1
    · rw [h0, h1]; simp
  have hcellro : ∀ k o, ro k o → w'.cell? ⟨k, o, none⟩ = w.cell? ⟨k, o, none⟩ := by
    intro k o hr
    by_cases hk : b = some k
    · have ho : o < l1.length * E.size t := by
        rcases Nat.lt_or_ge o (l1.length * E.size t) with h | h
        · exact h
        · exact absurd hr (hro k hk o h)
      have hox : o < xs.length := by rw [hxl]; exact ho
      rcases hown with ⟨hown, hbe⟩ | ⟨_, _, hbe, _⟩
      · have h1 := hkept k hk o _ (List.getElem?_eq_getElem hox)
        have h2 := hown.cells (hbe ▸ hk) o _ (List.getElem?_eq_getElem hox)
        rw [add_none, Nat.zero_add] at h2
        rw [h1, h2]
      · rw [hbe] at hk; cases hk
    · exact World.cell?_of_block (hgrow.block k (c.rolt k o hr) (fun e => hk e.symm))
  let ro' : Nat → Nat → Prop := fun k o => ro k o ∨ (b' = some k ∧ o < (l1.length + l2.length) * E.size t)
  let gh' : Gh := ⟨v', l1.length + l2.length, E.tid t, E.size t, b'⟩
  have hlen : (l1 ++ l2).length = l1.length + l2.length := by simp
  have hown2 : (w'.ownsRow 0 (E.tid t) (E.size t) v' (l1 ++ l2).length (xs ++ news) ∧ b' = v'.ownBlock) ∨ ((l1 ++ l2).length = 0 ∧ xs ++ news = [] ∧ b' = none ∧ ∃ ad, v' = .slice ad 0 0) := by
    rw [hlen]; exact hown'
  have hd' : DRep E w' ro' v' (.slice t (l1 ++ l2)) :=
    slice_of_rowD hown2 (fun g o hg ho => .inr ⟨hg, by rw [← hlen]; exact ho⟩) ((RowD.app hxl hxs hnd).mono (fun _ _ h => .inl h) hcellro)
  have hlt' : ∀ k, b' = some k → k < w'.heap.size := by
    intro k hk
    rcases hown' with ⟨h, rfl⟩ | ⟨_, _, h, _⟩
    · exact (h.lt k hk).2
    · rw [h] at hk; cases hk
  have hnotro : ∀ g, b' = some g → ∀ o, (l1.length + l2.length) * E.size t ≤ o → ¬ ro g o := by
    intro g hg o ho hr
    rcases hat with h | h
    · rw [h] at hg
      have := Nat.mul_le_mul_right (E.size t) (show l1.length ≤ l1.length + l2.length by omega)
      exact hro g hg o (by omega) hr
    · rw [h] at hg
      cases hg
      exact absurd (c.rolt _ _ hr) (by omega)
  refine ⟨v', w', setGh ι S.next gh', ro', hrun, {
    os := hgrow.os
    tape := hgrow.tape
    output := hgrow.output
    size := hgrow.size
    frame := fun k hk hne => hgrow.block k hk (fun e => by
      rcases hupd with ⟨h1, h2⟩ | ⟨id, gh, h1, h2, h3⟩
      · rw [h1] at e; cases e
      · exact hne id _ gh h1 h2 (by rw [h3, ← e]))
    cell := hcellro
    mono := fun _ _ h => .inl h
    rolt := fun k o h => by
      rcases h with h | ⟨h, _⟩
      · exact Nat.lt_of_lt_of_le (c.rolt k o h) hgrow.size
      · exact hlt' k h
    fresh := fun k o h => by
      rcases h with h | ⟨h, _⟩
      · exact .inl h
      · rcases hat with e | e
        · rw [e] at h
          rcases hupd with ⟨h1, h2⟩ | ⟨id, gh, h1, h2, h3⟩
          · rw [h1] at h; cases h
          · exact .inr (.inr ⟨id, _, gh, h1, h2, by rw [h3, h]⟩)
        · rw [e] at h; cases h; exact .inr (.inl (Nat.le_refl _))
    iold := fun id h => if_neg h
    inew := fun gh k h hk => by
      simp [setGh] at h
      subst h
      have hk : b' = some k := hk
      refine ⟨hlt' k hk, ?_⟩
      rcases hat with e | e
      · rw [e] at hk
        rcases hupd with ⟨h1, h2⟩ | ⟨id, gh, h1, h2, h3⟩
        · rw [h1] at hk; cases hk
        · exact .inr ⟨id, _, gh, h1, rfl, h2, by rw [h3, hk]⟩
      · rw [e] at hk; cases hk; exact .inl (Nat.le_refl _)
    nonew := fun h => by cases h
    upd := fun id o h => by
      rcases hupd with ⟨h1, h2⟩ | ⟨id', gh, h1, h2, h3⟩
      · rw [h2] at h; cases h
      · rw [h1] at h; cases h; trivial
    new := fun o h => by
      cases h
      intro _
      refine ⟨gh', xs ++ news, if_pos rfl, hown', fun g hg o ho hr => ?_⟩
      have hg : b' = some g := hg
      rcases hr with hr | ⟨_, hr⟩
      · exact hnotro g hg o ho hr
      · exact absurd ho (by show ¬ (l1.length + l2.length) * E.size t ≤ o; omega)
    val := .grow gh' t (l1 ++ l2) S.next (if_pos rfl) (by simp [gh']) rfl rfl hd' }⟩
theorem append_post_row (c : Ctx E S asm a w ι ro) (t : E.Ty) (T T' : TypeId) (ty : TypeId) (hT : P.underlying T = some (.slice (E.tid t))) (v : Value) (l1 l2 : List (E.Den t)) (xs : List Value) (u : Value) (news : List Value) (upd : Option (Nat × AObj E)) (b : Option Nat)
    (hown : (w.ownsRow 0 (E.tid t) (E.size t) v l1.length xs ∧ b = v.ownBlock) ∨ (l1.length = 0 ∧ xs = [] ∧ b = none ∧ ∃ ad, v = .slice ad 0 0)) (hxs : RowD E w ro t xs l1)
    (hro : ∀ g, b = some g → ∀ o, ¬ ro g o) (hs2 : Src P (E.size t) T' u l2.length news w) (hnd : RowD E w ro t news l2)
    (hb : (l1.length + l2.length) * E.bytes t ≤ 140737488355328) (hupd : b = none ∧ upd = none ∨ ∃ id gh, upd = some (id, .dead) ∧ ι id = some gh ∧ gh.blk = b) :
    ∃ v' w' ι', (Builtin.append_ #[T, T'] ty #[v, u]).run P w = .ok v' w' ∧ OpPost E w w' ι ι' ro ro S.next ⟨true, .row t (l1.length + l2.length) S.next, upd, some (.row t (l1 ++ l2))⟩ v' := by
  obtain ⟨i, z, hi, his, hib, hz, hzs⟩ := E.info_ok t
  have hbp := E.bytes_pos t
  have h63 : l1.length + l2.length ≤ maxLen := by
    have : l1.length + l2.length ≤ (l1.length + l2.length) * E.bytes t := Nat.le_mul_of_pos_right _ hbp
    unfold maxLen; omega
  obtain ⟨v', w', b', hrun, hown', hgrow, hat, hkept⟩ := run_append_gen (P := P) (w := w) T T' ty (E.tid t) i z hT hi hz (by rw [hzs, his]) v l1.length xs b (by rw [his]; exact hown) u l2.length news (by rw [his]; exact hs2) h63 (by rw [hib]; exact hb)
  rw [his] at hown'
  have hxl : xs.length = l1.length * E.size t := by
    rcases hown with h | ⟨h0, h1, _⟩
    · exact h.1.1
    · rw [h0, h1]; simp
  have hcellro : ∀ k o, ro k o → w'.cell? ⟨k, o, none⟩ = w.cell? ⟨k, o, none⟩ := by
    intro k o hr
    exact World.cell?_of_block (hgrow.block k (c.rolt k o hr) (fun e => hro k e.symm o hr))
  let gh' : Gh := ⟨v', l1.length + l2.length, E.tid t, E.size t, b'⟩
  have hlen : (l1 ++ l2).length = l1.length + l2.length := by simp
  have hrow' : RowD E w' ro t (xs ++ news) (l1 ++ l2) := (RowD.app hxl hxs hnd).mono (fun _ _ h => h) hcellro
  have hlt' : ∀ k, b' = some k → k < w'.heap.size := by
    intro k hk
    rcases hown' with ⟨h, rfl⟩ | ⟨_, _, h, _⟩
    · exact (h.lt k hk).2
    · rw [h] at hk; cases hk
  have hnotro : ∀ g, b' = some g → ∀ o, ¬ ro g o := by
    intro g hg o hr
    rcases hat with h | h
    · rw [h] at hg
      exact hro g hg o hr
    · rw [h] at hg
      cases hg
      exact absurd (c.rolt _ _ hr) (by omega)
  have hownT : OwnT w' gh' (xs ++ news) := hown'
  obtain ⟨ad', cap', hgv, had'⟩ := hownT.shape
  refine ⟨v', w', setGh ι S.next gh', hrun, {
    os := hgrow.os
    tape := hgrow.tape
    output := hgrow.output
    size := hgrow.size
    frame := fun k hk hne => hgrow.block k hk (fun e => by
      rcases hupd with ⟨h1, h2⟩ | ⟨id, gh, h1, h2, h3⟩
      · rw [h1] at e; cases e
      · exact hne id _ gh h1 h2 (by rw [h3, ← e]))
    cell := hcellro
    mono := fun _ _ h => h
    rolt := fun k o h => Nat.lt_of_lt_of_le (c.rolt k o h) hgrow.size
    fresh := fun k o h => .inl h
    iold := fun id h => if_neg h
    inew := fun gh k h hk => by
      simp [setGh] at h
      subst h
      have hk : b' = some k := hk
      refine ⟨hlt' k hk, ?_⟩
      rcases hat with e | e
      · rw [e] at hk
        rcases hupd with ⟨h1, h2⟩ | ⟨id, gh, h1, h2, h3⟩
        · rw [h1] at hk; cases hk
        · exact .inr ⟨id, _, gh, h1, rfl, h2, by rw [h3, hk]⟩
      · rw [e] at hk; cases hk; exact .inl (Nat.le_refl _)
    nonew := fun h => by cases h
    upd := fun id o h => by
      rcases hupd with ⟨h1, h2⟩ | ⟨id', gh, h1, h2, h3⟩
      · rw [h2] at h; cases h
      · rw [h1] at h; cases h; trivial
    new := fun o h => by
      cases h
      exact ⟨gh', xs ++ news, if_pos rfl, hlen.symm, rfl, rfl, hownT, hrow', hnotro⟩
    val := .row gh' t S.next ad' cap' (if_pos rfl) rfl rfl hgv had' }⟩
end
end
end Go.Proofs.YtiahkjjfhnfdiaaGreatDoor.Mir
namespace Go.Proofs.YtiahkjjfhnfdiaaGreatDoor.Mir
open Go Go.RowKit
noncomputable section
section
variable {P : Program} {E : Env P}
def ArgsRep (E : Env P) (w : World) (ro : Nat → Nat → Prop) : List Value → List (TV E) → Prop
  | [], [] => True
  | v :: vs, ⟨t, x⟩ :: r => TRep E w ro v t x ∧ ArgsRep E w ro vs r
  | _, _ => False
def RetRep (E : Env P) (w : World) (ro : Nat → Nat → Prop) (v : Value) : List (TV E) → Prop
  | [⟨t, x⟩] => TRep E w ro v t x
  | rs => ∃ vs : List Value, v = .tuple vs.toArray ∧ ArgsRep E w ro vs rs
def CallsOk (E : Env P) (f : FuncId) (args res : List (TV E)) : Prop :=
  ∀ (w : World) (ro : Nat → Nat → Prop) (vals : List Value), ArgsRep E w ro vals args → (∀ k o, ro k o → k < w.heap.size) →
    Calls P f vals.toArray w fun e w' => ∃ v, e = .returned v ∧ Below w.heap.size w w' ∧ RetRep E w' (fun k o => ro k o ∨ (w.heap.size ≤ k ∧ k < w'.heap.size)) v res
def FnOk (E : Env P) (f : FuncId) (F : List (TV E) → Option (Bool × List (TV E))) : Prop :=
  (∃ fn, P.funcs[f]? = some fn ∧ (fn.name == "runtime.NumGoroutine") = false ∧ fn.body.isNone = false) ∧ ∀ args res, F args = some (true, res) → CallsOk E f args res
def CallsFresh (E : Env P) (f : FuncId) (args : List (TV E)) (t : E.Ty) (l : List (E.Den t)) : Prop :=
  ∀ (w : World) (ro : Nat → Nat → Prop) (vals : List Value), ArgsRep E w ro vals args → (∀ k o, ro k o → k < w.heap.size) →
    Calls P f vals.toArray w fun e w' => ∃ (gh : Gh) (xs : List Value), e = .returned gh.v ∧ Below w.heap.size w w' ∧ gh.n = l.length ∧ gh.e = E.tid t ∧ gh.sz = E.size t ∧ OwnT w' gh xs ∧ RowD E w' ro t xs l ∧ ∀ g, gh.blk = some g → w.heap.size ≤ g
def CallsMut (E : Env P) (f : FuncId) (t : E.Ty) (l : List (E.Den t)) (rest : List (TV E)) (back : Bool) (l' : List (E.Den t)) : Prop :=
  ∀ (w : World) (ro : Nat → Nat → Prop) (gh : Gh) (xs : List Value) (vals : List Value), gh.n = l.length → gh.e = E.tid t → gh.sz = E.size t → OwnT w gh xs → RowD E w ro t xs l → (∀ g, gh.blk = some g → ∀ o, ¬ ro g o) → ArgsRep E w ro vals rest → (∀ k o, ro k o → k < w.heap.size) →
    Calls P f (gh.v :: vals).toArray w fun e w' => ∃ (val : Value) (gh' : Gh) (xs' : List Value), e = .returned val ∧ w.grownBy w' gh.blk ∧ gh'.n = l'.length ∧ gh'.e = E.tid t ∧ gh'.sz = E.size t ∧ OwnT w' gh' xs' ∧ RowD E w' (fun k o => ro k o ∨ (gh'.blk ≠ some k ∧ (gh.blk = some k ∨ w.heap.size ≤ k ∧ k < w'.heap.size))) t xs' l' ∧
      (∀ g, gh'.blk = some g → gh.blk = some g ∨ w.heap.size ≤ g) ∧ (back = true → val = gh'.v) ∧ (back = false → gh' = gh)
def CallsGrow (E : Env P) (f : FuncId) (t : E.Ty) : Prop :=
  ∀ (w : World) (n : Int), 0 ≤ n → n * (E.bytes t : Int) ≤ 140737488355328 →
    Calls P f #[.slice none 0 0, .int .i64 n] w fun e w' => ∃ (gh : Gh), e = .returned gh.v ∧ Below w.heap.size w w' ∧ gh.n = 0 ∧ gh.e = E.tid t ∧ gh.sz = E.size t ∧ OwnT w' gh [] ∧ ∀ g, gh.blk = some g → w.heap.size ≤ g
def CallsBox (E : Env P) (f : FuncId) (t : E.Ty) (x : E.Den t) (rest : List (TV E)) (y : E.Den t) (res : List (TV E)) : Prop :=
  ∀ (w : World) (ro : Nat → Nat → Prop) (g : Nat) (e : TypeId) (vs : Array Value) (vals : List Value), w.heap[g]? = some (.cells vs e (0, 0)) → RowRep E w ro vs (E.cells t x) → (∀ o, ¬ ro g o) → ArgsRep E w ro vals rest → (∀ k o, ro k o → k < w.heap.size) →
    Calls P f (.pointer (some ⟨g, 0, none⟩) :: vals).toArray w fun ed w' => ∃ (v : Value) (vs' : Array Value), ed = .returned v ∧ w.grownBy w' (some g) ∧ w'.heap[g]? = some (.cells vs' e (0, 0)) ∧
      RowRep E w' (fun k o => ro k o ∨ (w.heap.size ≤ k ∧ k < w'.heap.size)) vs' (E.cells t y) ∧ RetRep E w' (fun k o => ro k o ∨ (w.heap.size ≤ k ∧ k < w'.heap.size)) v res
def ARep (E : Env P) (w : World) (ro : Nat → Nat → Prop) (v : Value) : Arg E → Prop
  | .v x => TRep E w ro v x.1 x.2
  | .c f p q => ∃ vs us : Array Value, v = .func (.func f) vs us ∧ ArgsRep E w ro vs.toList p ∧ ArgsRep E w ro us.toList q
def CallsA (E : Env P) (f : FuncId) (args : List (Arg E)) (res : List (TV E)) : Prop :=
  ∀ (w : World) (ro : Nat → Nat → Prop) (vals : List Value), vals.length = args.length → (∀ (i : Nat) v y, vals[i]? = some v → args[i]? = some y → ARep E w ro v y) → (∀ k o, ro k o → k < w.heap.size) →
    Calls P f vals.toArray w fun e w' => ∃ v, e = .returned v ∧ Below w.heap.size w w' ∧ RetRep E w' (fun k o => ro k o ∨ (w.heap.size ≤ k ∧ k < w'.heap.size)) v res
def InlOk (E : Env P) (I : Inl E) : Prop := ∀ {R : Type} (f : FuncId) (args : List (AV E)) (objs : List (Nat × AObj E)) (next : Nat) (k : AV E → List (Nat × AObj E) → Nat → Option R) (rr : R), I.run f args objs next k = some rr →
  (∃ fn, P.funcs[f]? = some fn ∧ (fn.name == "runtime.NumGoroutine") = false ∧ fn.body.isNone = false) ∧
  ∀ (w0 : Start) (ro0 : Nat → Nat → Prop) (a : Act) (w : World) (ι : Nat → Option Gh) (ro : Nat → Nat → Prop) (vals : List Value), Base w0 ro0 a w ι ro → (∀ (id : Nat) o, look objs id = some o → ObjOk E w ro ι id o) → Inj E objs ι → (∀ id, next ≤ id → ι id = none) →
    (∀ id o, look objs id = some o → id < next) → vals.length = args.length → (∀ (i : Nat) v x, vals[i]? = some v → args[i]? = some x → Rep E w ro ι v x) →
    Calls P f vals.toArray w fun e w' => ∃ (v : Value) (x : AV E) (objs' : List (Nat × AObj E)) (next' : Nat) (ι' : Nat → Option Gh) (ro' : Nat → Nat → Prop), e = .returned v ∧ k x objs' next' = some rr ∧ Rep E w' ro' ι' v x ∧ Base w0 ro0 a w' ι' ro' ∧
      (∀ (id : Nat) o, look objs' id = some o → ObjOk E w' ro' ι' id o) ∧ Inj E objs' ι' ∧ (∀ id, next' ≤ id → ι' id = none) ∧ (∀ id o, look objs' id = some o → id < next') ∧
      (∀ k o, ro k o → ro' k o ∧ w'.cell? ⟨k, o, none⟩ = w.cell? ⟨k, o, none⟩) ∧ ∀ id gh, ι id = some gh → ι' id = some gh
def CopyOk (P : Program) (f : FuncId) (T : TypeId) : Prop :=
  (∀ (w : World) (b : Nat), w.cell? ⟨b, 0, none⟩ = some (.pointer none) → w.shape? b = some (T, 2) → w.frozen? ⟨b, 0, none⟩ = false → Calls P f #[.pointer (some ⟨b, 0, none⟩)] w fun e w' => e = .returned (.tuple #[]) ∧ w' = w.setCell ⟨b, 0, none⟩ (.pointer (some ⟨b, 0, none⟩))) ∧
  ∀ (w : World) (b : Nat), w.cell? ⟨b, 0, none⟩ = some (.pointer (some ⟨b, 0, none⟩)) → Calls P f #[.pointer (some ⟨b, 0, none⟩)] w fun e w' => e = .returned (.tuple #[]) ∧ w' = w
def CallsCl (E : Env P) (f : FuncId) (args : List (AV E)) (x : AV E) : Prop :=
  ∀ (w : World) (ro : Nat → Nat → Prop) (vals : List Value), vals.length = args.length → (∀ (i : Nat) v y, vals[i]? = some v → args[i]? = some y → Rep E w ro (fun _ => none) v y) → (∀ k o, ro k o → k < w.heap.size) →
    Calls P f vals.toArray w fun e w' => ∃ v, e = .returned v ∧ Below w.heap.size w w' ∧ Rep E w' (fun k o => ro k o ∨ (w.heap.size ≤ k ∧ k < w'.heap.size)) (fun _ => none) v x
def OracleOk (E : Env P) (O : Oracle E) : Prop :=
  (∀ f args res, O.call f args = some (true, res) → (∃ fn, P.funcs[f]? = some fn ∧ (fn.name == "runtime.NumGoroutine") = false ∧ fn.body.isNone = false) ∧ CallsOk E f args res) ∧
  (∀ f args t l, O.fresh f args = some (true, ⟨t, l⟩) → (∃ fn, P.funcs[f]? = some fn ∧ (fn.name == "runtime.NumGoroutine") = false ∧ fn.body.isNone = false) ∧ CallsFresh E f args t l) ∧
  (∀ f t l rest back l', O.rowf f t l rest = some (true, back, l') → (∃ fn, P.funcs[f]? = some fn ∧ (fn.name == "runtime.NumGoroutine") = false ∧ fn.body.isNone = false) ∧ CallsMut E f t l rest back l') ∧
  (∀ f t, O.grow f = some t → (∃ fn, P.funcs[f]? = some fn ∧ (fn.name == "runtime.NumGoroutine") = false ∧ fn.body.isNone = false) ∧ CallsGrow E f t) ∧ InlOk E O.inl ∧
  (∀ f T, O.cc = some (f, T) → (∃ fn, P.funcs[f]? = some fn ∧ (fn.name == "runtime.NumGoroutine") = false ∧ fn.body.isNone = false) ∧ CopyOk P f T) ∧
  (∀ f args x, O.cl f args = some x → (∃ fn, P.funcs[f]? = some fn ∧ (fn.name == "runtime.NumGoroutine") = false ∧ fn.body.isNone = false) ∧ CallsCl E f args x) ∧
  (∀ f t x args y res, O.boxf f t x args = some (true, y, res) → (∃ fn, P.funcs[f]? = some fn ∧ (fn.name == "runtime.NumGoroutine") = false ∧ fn.body.isNone = false) ∧ CallsBox E f t x args y res) ∧
  ∀ f p xs res, p ∈ O.cla f → p.2 xs = some (true, res) → (∃ fn, P.funcs[f]? = some fn ∧ (fn.name == "runtime.NumGoroutine") = false ∧ fn.body.isNone = false) ∧ CallsA E f xs res
end
section
variable {P : Program} {E : Env P} {w : World} {ro : Nat → Nat → Prop} {ι : Nat → Option Gh} {S : ASt E} {asm : List (Nat × Bool)} {a : Act}
theorem castL_eq {t t' : E.Ty} {l : List (E.Den t)} {l' : List (E.Den t')} (h : castL t t' l = some l') : ∃ e : t = t', l' = e ▸ l := by
  unfold castL at h
  cases hd : E.dec t t' with
  | isFalse hn => rw [hd] at h; cases h
  | isTrue he => rw [hd] at h; cases h; exact ⟨he, rfl⟩
theorem done_append_gen (c : Ctx E S asm a w ι ro) {o : Oper} {T T' : TypeId} {s x : Operand} (ho : o.op = .call { callee := .builtin .append, args := #[s, x], argTypes := #[T, T'] }) {r : Res E} {Y : AV E}
    (hsrc : ∀ t l2, P.underlying T = some (.slice (E.tid t)) → sliceA (E.tid t) Y = some ⟨t, l2⟩ → ∃ news, Src P (E.size t) T' (a.eval x) l2.length news w ∧ RowD E w ro t news l2)
    (h : evAppend S.objs S.next T (getA S.tmps asm s) Y = some r) (hok : r.ok = true) : OpDone E o a w ι ro S.next r := by
  have hs := c.get s
  generalize hvs : a.eval s = vs at hs
  generalize hvx : a.eval x = vx at hsrc
  generalize getA S.tmps asm s = X at *
  have fin : ∀ {v' : Value} {w' : World}, (Builtin.append_ #[T, T'] o.type #[vs, vx]).run P w = .ok v' w' → (execOp a.eval o).run P w = .ok (.value v') w' := by
    intro v' w' hr
    simp only [execOp, ho, resolve, invoke, builtin, Sem.run_bind, Sem.run_pure, Result.andThen_ok, List.map_toArray, List.map_cons, List.map_nil, hvs, hvx, hr]
  unfold evAppend at h
  split at h
  · rename_i e he
    have hu := elemT_inv he
    split at h
    · rename_i t l2 hsl
      split at h
      · rename_i ht
        have ht := Nat.eq_of_beq_eq_true ht
        subst ht
        obtain ⟨news, hs2, hnd⟩ := hsrc t l2 hu hsl
        split at h
        · -- nil
          cases h
          have e1 := hs.raw_inv
          subst e1
          have hok' : l2.length * E.bytes t ≤ maxBytes := of_decide_eq_true hok
          obtain ⟨v', w', ι', ro', hrun, hp⟩ := append_post c t T T' o.type hu (.slice none 0 0) [] l2 [] vx news none none (.inl ⟨World.ownsRow_nil w 0 (E.tid t) (E.size t), rfl⟩) (fun i x j c h => by simp at h) (fun g hg => by cases hg) hs2 hnd (by rw [List.length_nil, Nat.zero_add]; exact hok') (.inl ⟨rfl, rfl⟩)
          simp only [hok', decide_true]
          exact .inl ⟨v', w', ι', ro', fin hrun, hp⟩
        · -- an owned row
          rename_i t' l1 id
          cases hc : castL t t' l2 with
          | none => rw [hc] at h; cases h
          | some l2' =>
            cases hob : look S.objs id with
            | none => rw [hc, hob] at h; cases h
            | some ob =>
              rw [hc, hob] at h
              cases ob with
              | dead => cases h
              | box cs => cases h
              | row _ _ => cases h
              | mp _ _ _ => cases h
              | lp _ _ _ _ _ _ _ => cases h
              | dfr => cases h
              | arr _ _ _ => cases h
              | tail live =>
                cases live with
                | false => cases h
                | true =>
                  cases h
                  obtain ⟨ee, hl⟩ := castL_eq hc
                  subst ee
                  obtain rfl : l2 = l2' := hl.symm
                  have hok' : (l1.length + l2.length) * E.bytes t ≤ maxBytes := of_decide_eq_true hok
                  cases hs with
                  | grow gh _ _ _ hi hn hge hgs hd1 =>
                    obtain ⟨gh', xs, hi', hown, hnro⟩ := c.objs id _ hob rfl
                    rw [hi] at hi'
                    cases hi'
                    unfold OwnT at hown
                    rw [hn, hge, hgs] at hown
                    rw [hn, hgs] at hnro
                    obtain ⟨v', w', ι', ro', hrun, hp⟩ := append_post c t T T' o.type hu gh.v l1 l2 xs vx news (some (id, .dead)) gh.blk hown (rowD_of_slice hown hd1) (fun g hg => hnro g hg) hs2 hnd hok' (.inr ⟨id, gh, rfl, hi, rfl⟩)
                    simp only [hok', decide_true]
                    exact .inl ⟨v', w', ι', ro', fin hrun, hp⟩
        · -- a row of its own
          rename_i t0 n0 id
          split at h
          · rename_i t' l1 hob
            cases hc : castL t t' l2 with
            | none => rw [hc] at h; cases h
            | some l2' =>
              rw [hc] at h
              cases h
              obtain ⟨ee, hl⟩ := castL_eq hc
              subst ee
              obtain rfl : l2 = l2' := hl.symm
              have hok' : (l1.length + l2.length) * E.bytes t ≤ maxBytes := of_decide_eq_true hok
              cases hs with
              | row gh _ _ ad cap hi hge0 hgs0 hgv had =>
                obtain ⟨gh', xs, hi', hn, hge, hgs, hown, hrow, hnro⟩ := c.objs id _ hob
                rw [hi] at hi'
                cases hi'
                unfold OwnT at hown
                rw [hn, hge, hgs] at hown
                obtain ⟨v', w', ι', hrun, hp⟩ := append_post_row c t T T' o.type hu gh.v l1 l2 xs vx news (some (id, .dead)) gh.blk hown hrow (fun g hg o => hnro g hg o) hs2 hnd hok' (.inr ⟨id, gh, rfl, hi, rfl⟩)
                simp only [hok', decide_true]
                exact .inl ⟨v', w', ι', ro, fin hrun, hp⟩
          · cases h
        · cases h
      · cases h
    · cases h
  · cases h
theorem done_append (c : Ctx E S asm a w ι ro) {o : Oper} {T : TypeId} {s x : Operand} (ho : o.op = .call { callee := .builtin .append, args := #[s, x], argTypes := #[T, T] }) {r : Res E}
    (h : evAppend S.objs S.next T (getA S.tmps asm s) (getA S.tmps asm x) = some r) (hok : r.ok = true) : OpDone E o a w ι ro S.next r :=
  done_append_gen c ho (fun t l2 hT hsl => (sliceA_rep (c.get x) hsl).src hT) h hok
theorem done_appendS (c : Ctx E S asm a w ι ro) {o : Oper} {T T' : TypeId} {s x : Operand} (ho : o.op = .call { callee := .builtin .append, args := #[s, x], argTypes := #[T, T'] }) {r : Res E}
    (h : evAppendS S.objs S.next T T' (getA S.tmps asm s) (getA S.tmps asm x) = some r) (hok : r.ok = true) : OpDone E o a w ι ro S.next r := by
  have hx := c.get x
  unfold evAppendS at h
  split at h
  · rename_i e hT' he
    split at h
    · rename_i l hY
      split at h
      · rename_i t ht
        split at h
        · rename_i g hg
          rw [hY] at hx
          refine done_append_gen c ho (fun t' l2 hT hsl => ?_) h hok
          cases hsl
          have hv : a.eval x = .string ⟨l.toArray⟩ := by
            generalize a.eval x = vx at hx
            cases hx with
            | d _ _ hd => cases hd; rfl
          rw [hv]
          exact str_src g (E.byteU_ok _ g hg) (isStrT_inv hT') l
        · cases h
      · cases h
    · cases h
  · cases h
theorem foldArgs_rep : ∀ (Ts : List TypeId) (vs : List Value) (as : List (AV E)) (xs : List (TV E)), vs.length = as.length → (∀ (i : Nat) v x, vs[i]? = some v → as[i]? = some x → Rep E w ro ι v x) → foldArgs Ts as = some xs → ArgsRep E w ro vs xs
  | [], [], [], xs, _, _, h => by cases h; trivial
  | T :: Ts, v :: vs, x :: as, xs, hl, hr, h => by
    unfold foldArgs at h
    split at h
    · rename_i t ht
      split at h
      · rename_i y hy
        split at h
        · rename_i r hr'
          cases h
          exact ⟨foldA_rep (hr 0 v x rfl rfl) hy, foldArgs_rep Ts vs as r (by simpa using hl) (fun i v x hv hx => hr (i + 1) v x (by simpa using hv) (by simpa using hx)) hr'⟩
        · cases h
      · cases h
    · cases h
  | [], v :: vs, x :: as, xs, _, _, h => by cases h
  | T :: Ts, [], [], xs, _, _, h => by cases h
  | [], [], _ :: _, _, hl, _, _ => by simp at hl
  | [], _ :: _, [], _, hl, _, _ => by simp at hl
  | _ :: _, [], _ :: _, _, hl, _, _ => by simp at hl
  | _ :: _, _ :: _, [], _, hl, _, _ => by simp at hl
theorem ArgsRep.at_ : ∀ (vs : List Value) (rs : List (TV E)), ArgsRep E w ro vs rs → vs.length = rs.length ∧ ∀ (i : Nat) v x, vs[i]? = some v → rs[i]? = some x → TRep E w ro v x.1 x.2
  | [], [], _ => ⟨rfl, fun i v x h => by simp at h⟩
  | v :: vs, r :: rs, h => by
    obtain ⟨t, y⟩ := r
    obtain ⟨h1, h2⟩ := h
    obtain ⟨g1, g2⟩ := ArgsRep.at_ vs rs h2
    refine ⟨by simp [g1], fun i u x hu hx => ?_⟩
    cases i with
    | zero => simp at hu hx; subst hu; subst hx; exact h1
    | succ i => exact g2 i u x (by simpa using hu) (by simpa using hx)
  | [], _ :: _, h => h.elim
  | _ :: _, [], h => h.elim
theorem retA_rep {v : Value} {res : List (TV E)} (h : RetRep E w ro v res) : Rep E w ro ι v (retA res) := by
  unfold RetRep at h
  split at h
  · exact expandA_rep h
  · rename_i hne
    obtain ⟨vs, rfl, h⟩ := h
    obtain ⟨h1, h2⟩ := ArgsRep.at_ vs res h
    have e : retA res = .tup (res.map fun r => expandA r.1 r.2) := by
      unfold retA
      split
      · rename_i t x; exact absurd rfl (hne t x)
      · rfl
    rw [e]
    refine .tup _ _ (by simp [h1]) (fun j u x hu hx => ?_)
    rw [List.getElem?_map] at hx
    cases hr : res[j]? with
    | none => rw [hr] at hx; cases hx
    | some r =>
      rw [hr] at hx
      cases hx
      exact expandA_rep (h2 j u r (by simpa using hu) hr)
theorem OwnT.lt {gh : Gh} {xs : List Value} (h : OwnT w gh xs) {g : Nat} (hg : gh.blk = some g) : g < w.heap.size := by
  rcases h with ⟨h, hb⟩ | ⟨_, _, hb, _⟩
  · exact (h.lt g (hb ▸ hg)).2
  · rw [hb] at hg; cases hg
theorem enter_of {o : Oper} {f : FuncId} {cal : Operand} {as : Array Operand} {ts : Array TypeId} (ho : o.op = .call { callee := .value cal, args := as, argTypes := ts }) (hfo : a.eval cal = .func (.func f) #[] #[])
    (h : ∃ fn, P.funcs[f]? = some fn ∧ (fn.name == "runtime.NumGoroutine") = false ∧ fn.body.isNone = false) : (execOp a.eval o).run P w = .ok (.enter f (as.toList.map a.eval).toArray) w := by
  obtain ⟨fn, hfn, hname, hbody⟩ := h
  have e1 : (as.map a.eval) = (as.toList.map a.eval).toArray := by
    apply Array.ext'
    simp
  simp only [execOp, ho, resolve, hfo, Deferred.ofValue, Sem.run_bind, Sem.run_pure, Result.andThen_ok, invoke, callFunc, e1]
  have hn : ¬ fn.name = "runtime.NumGoroutine" := by intro e; rw [e] at hname; simp at hname
  have hb : ¬ fn.body = none := by intro e; rw [e] at hbody; simp at hbody
  simp [hfn, hn, hb, program, Sem.run]
theorem enter_fn {o : Oper} {f : FuncId} {cal : Operand} {as : Array Operand} {ts : Array TypeId} {vs us : Array Value} (ho : o.op = .call { callee := .value cal, args := as, argTypes := ts }) (hfo : a.eval cal = .func (.func f) vs us)
    (h : ∃ fn, P.funcs[f]? = some fn ∧ (fn.name == "runtime.NumGoroutine") = false ∧ fn.body.isNone = false) : (execOp a.eval o).run P w = .ok (.enter f (vs.toList ++ (as.toList.map a.eval ++ us.toList)).toArray) w := by
  obtain ⟨fn, hfn, hname, hbody⟩ := h
  have e1 : (vs ++ (as.map a.eval)) ++ us = (vs.toList ++ (as.toList.map a.eval ++ us.toList)).toArray := by
    apply Array.ext'
    simp
  have hn : ¬ fn.name = "runtime.NumGoroutine" := by intro e; rw [e] at hname; simp at hname
  have hb : ¬ fn.body = none := by intro e; rw [e] at hbody; simp at hbody
  simp only [execOp, ho, resolve, hfo, Deferred.ofValue, Sem.run_bind, Sem.run_pure, Result.andThen_ok, invoke, callFunc, e1]
  simp [hfn, hn, hb, program, Sem.run]
theorem done_call (c : Ctx E S asm a w ι ro) {O : Oracle E} (hO : OracleOk E O) {o : Oper} {f : FuncId} {cal : Operand} {as : Array Operand} {ts : Array TypeId} (ho : o.op = .call { callee := .value cal, args := as, argTypes := ts }) (hfo : a.eval cal = .func (.func f) #[] #[])
    {r : Res E} (h : evCall O S.next f ts.toList (argsA S.tmps asm as) = some r) (hok : r.ok = true) : OpDone E o a w ι ro S.next r := by
  have args : ∀ xs, foldArgs ts.toList (argsA S.tmps asm as) = some xs → ArgsRep E w ro (as.toList.map a.eval) xs := fun xs hxs =>
    foldArgs_rep (ι := ι) ts.toList _ _ xs (by simp [argsA]) (fun i v x hv hx => by
        unfold argsA at hx
        rw [List.getElem?_map] at hv hx
        cases hi : as.toList[i]? with
        | none => rw [hi] at hv; cases hv
        | some y =>
          rw [hi] at hv hx
          cases hv; cases hx
          exact c.get y) hxs
  have enter := enter_of (a := a) (w := w) (P := P) ho hfo
  unfold evCall at h
  split at h
  · rename_i xs hxs
    cases hfr : O.isFresh f with
    | true =>
      rw [hfr] at h
      simp only [cond_true] at h
      split at h
      · rename_i ok t l hres
        cases h
        have hok : ok = true := hok
        subst hok
        obtain ⟨hfn, hcalls⟩ := hO.2.1 f xs t l hres
        refine .inr (.inr ⟨f, _, enter hfn, (hcalls w ro _ (args xs hxs) c.rolt).mono fun e w' he => ?_⟩)
        obtain ⟨gh, ys, rfl, hb, hn, hge, hgs, hown, hrow, hblk⟩ := he
        have hcell : ∀ k o, ro k o → w'.cell? ⟨k, o, none⟩ = w.cell? ⟨k, o, none⟩ := fun k o h => hb.cell (p := ⟨k, o, none⟩) (c.rolt k o h)
        obtain ⟨ad, cap, hgv, had⟩ := hown.shape
        exact ⟨gh.v, setGh ι S.next gh, ro, rfl, {
          os := hb.os
          tape := hb.tape
          output := hb.output
          size := hb.size
          frame := fun k hk _ => hb.block k hk
          cell := hcell
          mono := fun _ _ h => h
          rolt := fun k o h => Nat.lt_of_lt_of_le (c.rolt k o h) hb.size
          fresh := fun k o h => .inl h
          iold := fun id h => if_neg h
          inew := fun gh' k h hk => by
            simp [setGh] at h
            subst h
            exact ⟨hown.lt hk, .inl (hblk k hk)⟩
          nonew := fun h => by cases h
          upd := fun id o h => by cases h
          new := fun o h => by
            cases h
            exact ⟨gh, ys, if_pos rfl, hn, hge, hgs, hown, hrow, fun g hg o hr => by have := c.rolt g o hr; have := hblk g hg; omega⟩
          val := by rw [← hn]; exact .row gh t S.next ad cap (if_pos rfl) hge hgs hgv had }⟩
      · cases h
    | false =>
      rw [hfr] at h
      simp only [cond_false] at h
      split at h
      · rename_i ok res hres
        cases h
        have hok : ok = true := hok
        subst hok
        obtain ⟨hfn, hcalls⟩ := hO.1 f xs res hres
        refine .inr (.inr ⟨f, _, enter hfn, (hcalls w ro _ (args xs hxs) c.rolt).mono fun e w' he => ?_⟩)
        obtain ⟨v, rfl, hb, hr⟩ := he
        have hcell : ∀ k o, ro k o → w'.cell? ⟨k, o, none⟩ = w.cell? ⟨k, o, none⟩ := fun k o h => hb.cell (p := ⟨k, o, none⟩) (c.rolt k o h)
        refine ⟨v, ι, _, rfl, {
          os := hb.os
          tape := hb.tape
          output := hb.output
          size := hb.size
          frame := fun k hk _ => hb.block k hk
          cell := hcell
          mono := fun _ _ h => .inl h
          rolt := fun k o h => by
            rcases h with h | ⟨_, h⟩
            · exact Nat.lt_of_lt_of_le (c.rolt k o h) hb.size
            · exact h
          fresh := fun k o h => by
            rcases h with h | ⟨h, _⟩
            · exact .inl h
            · exact .inr (.inl h)
          iold := fun _ _ => rfl
          inew := fun gh k h => by rw [c.fresh] at h; cases h
          nonew := fun _ => rfl
          upd := fun id o h => by cases h
          new := fun o h => by cases h
          val := retA_rep hr }⟩
      · cases h
  · cases h
theorem clsC_rep {v : Value} {x y : AV E} (h : Rep E w ro ι v x) (hc : clsC x = some y) : Rep E w ro (fun _ => none) v y := by
  cases h with
  | d _ c h => cases hc; exact .d _ _ h
  | st vs t x ha h => cases hc; exact .st _ _ _ ha h
  | grow gh t l id h1 h2 h3 h4 h5 => cases hc; exact .d _ _ h5
  | pelt g off f cs h1 h2 => cases hc; exact .pelt g off f cs h1 h2
  | _ => cases hc
theorem clsL_at : ∀ {cs ds : List (AV E)}, clsL cs = some ds → cs.length = ds.length ∧ ∀ (i : Nat) c d, cs[i]? = some c → ds[i]? = some d → clsC c = some d
  | [], ds, h => by cases h; exact ⟨rfl, fun i c d hc => by simp at hc⟩
  | v :: r, ds, h => by
    unfold clsL at h
    split at h
    · rename_i x hx
      split at h
      · rename_i l hl
        cases h
        obtain ⟨h1, h2⟩ := clsL_at hl
        refine ⟨by simp [h1], fun i c d hc hd => ?_⟩
        cases i with
        | zero => simp at hc hd; subst hc; subst hd; exact hx
        | succ i => exact h2 i c d (by simpa using hc) (by simpa using hd)
      · cases h
    · cases h
theorem clsA_rep {v : Value} {x y : AV E} (h : Rep E w ro ι v x) (hc : clsA x = some y) : Rep E w ro (fun _ => none) v y := by
  unfold clsA at hc
  split at hc
  · rename_i cs
    split at hc
    · rename_i l hl
      cases hc
      cases h with
      | agg vs _ hs hr =>
        obtain ⟨h1, h2⟩ := clsL_at hl
        refine .agg vs l (hs.trans h1) fun j v c hv hc => ?_
        have hj : j < cs.length := by rw [h1]; exact (List.getElem?_eq_some_iff.1 hc).1
        exact clsC_rep (hr j v _ hv (List.getElem?_eq_getElem hj)) (h2 j _ c (List.getElem?_eq_getElem hj) hc)
    · cases hc
  · exact clsC_rep h hc
theorem clsAs_at : ∀ {cs ds : List (AV E)}, clsAs cs = some ds → cs.length = ds.length ∧ ∀ (i : Nat) c d, cs[i]? = some c → ds[i]? = some d → clsA c = some d
  | [], ds, h => by cases h; exact ⟨rfl, fun i c d hc => by simp at hc⟩
  | v :: r, ds, h => by
    unfold clsAs at h
    split at h
    · rename_i x hx
      split at h
      · rename_i l hl
        cases h
        obtain ⟨h1, h2⟩ := clsAs_at hl
        refine ⟨by simp [h1], fun i c d hc hd => ?_⟩
        cases i with
        | zero => simp at hc hd; subst hc; subst hd; exact hx
        | succ i => exact h2 i c d (by simpa using hc) (by simpa using hd)
      · cases h
    · cases h
theorem done_callK (c : Ctx E S asm a w ι ro) {O : Oracle E} (hO : OracleOk E O) {o : Oper} {f : FuncId} {cal : Operand} {as : Array Operand} {ts : Array TypeId} (ho : o.op = .call { callee := .value cal, args := as, argTypes := ts }) (hfo : a.eval cal = .func (.func f) #[] #[])
    {r : Res E} (h : evCallK O f (argsA S.tmps asm as) = some r) (_ : r.ok = true) : OpDone E o a w ι ro S.next r := by
  have enter := enter_of (a := a) (w := w) (P := P) ho hfo
  unfold evCallK at h
  split at h
  · rename_i xs hxs
    split at h
    · rename_i x hx
      cases h
      obtain ⟨hfn, hcalls⟩ := hO.2.2.2.2.2.2.1 f xs x hx
      obtain ⟨q1, q2⟩ := clsAs_at hxs
      refine .inr (.inr ⟨f, _, enter hfn, (hcalls w ro (as.toList.map a.eval) (by rw [← q1]; simp [argsA]) (fun i v y hv hy => ?_) c.rolt).mono fun e w' he => ?_⟩)
      · have hi : i < (argsA S.tmps asm as).length := by rw [q1]; exact (List.getElem?_eq_some_iff.1 hy).1
        refine clsA_rep (ι := ι) ?_ (q2 i _ y (List.getElem?_eq_getElem hi) hy)
        have hx := List.getElem?_eq_getElem hi
        generalize (argsA S.tmps asm as)[i] = z at hx
        unfold argsA at hx
        rw [List.getElem?_map] at hv hx
        cases hi' : as.toList[i]? with
        | none => rw [hi'] at hv; cases hv
        | some y =>
          rw [hi'] at hv hx
          cases hv; cases hx
          exact c.get y
      · obtain ⟨v, rfl, hb, hr⟩ := he
        have hcell : ∀ k o, ro k o → w'.cell? ⟨k, o, none⟩ = w.cell? ⟨k, o, none⟩ := fun k o h => hb.cell (p := ⟨k, o, none⟩) (c.rolt k o h)
        exact ⟨v, ι, _, rfl, {
          os := hb.os
          tape := hb.tape
          output := hb.output
          size := hb.size
          frame := fun k hk _ => hb.block k hk
          cell := hcell
          mono := fun _ _ h => .inl h
          rolt := fun k o h => by
            rcases h with h | ⟨_, h⟩
            · exact Nat.lt_of_lt_of_le (c.rolt k o h) hb.size
            · exact h
          fresh := fun k o h => by
            rcases h with h | ⟨h, _⟩
            · exact .inl h
            · exact .inr (.inl h)
          iold := fun _ _ => rfl
          inew := fun gh k h => by rw [c.fresh] at h; cases h
          nonew := fun _ => rfl
          upd := fun id o h => by cases h
          new := fun o h => by cases h
          val := hr.mono (fun _ _ h => h) (fun _ _ _ => rfl) (fun _ _ h => by cases h) }⟩
    · cases h
  · cases h
theorem rowArg_look {objs : List (Nat × AObj E)} : ∀ {args : List (AV E)} {id : Nat} {t : E.Ty} {l : List (E.Den t)}, rowArg objs args = some (id, ⟨t, l⟩) → look objs id = some (.row t l)
  | [], _, _, _, h => by cases h
  | v :: r, id, t, l, h => by
    unfold rowArg at h
    split at h
    · split at h
      · rename_i hl
        cases h
        exact hl
      · exact rowArg_look h
    · exact rowArg_look h
theorem openArg_rep {ro' : Nat → Nat → Prop} {id : Nat} {t : E.Ty} {l : List (E.Den t)} (hro : ∀ k o, ro k o → ro' k o) {gh : Gh} (hi : ι id = some gh) (hd : DRep E w ro' gh.v (.slice t l)) {v : Value} {x : AV E} (h : Rep E w ro ι v x) : Rep E w ro' ι v (openArg id t l x) := by
  have hm := h.mono (w' := w) hro (fun _ _ _ => rfl) (fun _ _ h => h)
  cases h with
  | row gh' t' id' ad cap h1 h2 h3 h4 h5 =>
    show Rep E w ro' ι gh'.v (match Nat.beq id' id with | true => .d (.slice t l) | false => .row t' gh'.n id')
    cases hb : Nat.beq id' id with
    | false => exact hm
    | true =>
      have := Nat.eq_of_beq_eq_true hb
      subst this
      rw [h1] at hi
      cases hi
      exact .d _ _ hd
  | _ => exact hm
theorem done_callR (c : Ctx E S asm a w ι ro) {O : Oracle E} (hO : OracleOk E O) {o : Oper} {f : FuncId} {cal : Operand} {as : Array Operand} {ts : Array TypeId} (ho : o.op = .call { callee := .value cal, args := as, argTypes := ts }) (hfo : a.eval cal = .func (.func f) #[] #[])
    {r : Res E} (h : evCallR O S.objs f ts.toList (argsA S.tmps asm as) = some r) (hok : r.ok = true) : OpDone E o a w ι ro S.next r := by
  unfold evCallR at h
  split at h
  · rename_i id t l hra
    split at h
    · cases h
    · split at h
      · rename_i xs hxs
        split at h
        · rename_i ok res hres
          cases h
          have hok : ok = true := hok
          subst hok
          obtain ⟨gh, ys, hi, hn, hge, hgs, hown, hrow, hnro⟩ := c.objs id _ (rowArg_look hra)
          let ro1 : Nat → Nat → Prop := fun k o => ro k o ∨ gh.blk = some k
          have hro : ∀ k o, ro k o → ro1 k o := fun _ _ h => .inl h
          have hrolt : ∀ k o, ro1 k o → k < w.heap.size := by
            rintro k o (h | h)
            · exact c.rolt k o h
            · exact hown.lt h
          have hd : DRep E w ro1 gh.v (.slice t l) := by
            refine slice_of_rowD (xs := ys) (b := gh.blk) ?_ (fun g o hg _ => .inr hg) (hrow.mono hro (fun _ _ _ => rfl))
            rcases hown with ⟨h, hb⟩ | ⟨h0, h1, h2, h3⟩
            · exact .inl ⟨by rw [← hge, ← hgs, ← hn]; exact h, hb⟩
            · exact .inr ⟨by rw [← hn]; exact h0, h1, h2, h3⟩
          have args : ArgsRep E w ro1 (as.toList.map a.eval) xs :=
            foldArgs_rep (ι := ι) ts.toList _ _ xs (by simp [argsA]) (fun i v x hv hx => by
              rw [List.getElem?_map] at hx
              unfold argsA at hx
              rw [List.getElem?_map] at hv hx
              cases hi' : as.toList[i]? with
              | none => rw [hi'] at hv; cases hv
              | some y =>
                rw [hi'] at hv hx
                cases hv; cases hx
                exact openArg_rep hro hi hd (c.get y)) hxs
          obtain ⟨hfn, hcalls⟩ := hO.1 f xs res hres
          have enter := enter_of (a := a) (w := w) (P := P) ho hfo hfn
          refine .inr (.inr ⟨f, _, enter, (hcalls w ro1 _ args hrolt).mono fun e w' he => ?_⟩)
          obtain ⟨v, rfl, hb, hr⟩ := he
          have hcell : ∀ k o, ro1 k o → w'.cell? ⟨k, o, none⟩ = w.cell? ⟨k, o, none⟩ := fun k o h => hb.cell (p := ⟨k, o, none⟩) (hrolt k o h)
          refine ⟨v, ι, _, rfl, {
            os := hb.os
            tape := hb.tape
            output := hb.output
            size := hb.size
            frame := fun k hk _ => hb.block k hk
            cell := fun k o h => hcell k o (hro k o h)
            mono := fun _ _ h => .inl (hro _ _ h)
            rolt := fun k o h => by
              rcases h with h | h
              · exact Nat.lt_of_lt_of_le (hrolt k o h) hb.size
              · exact h.2
            fresh := fun k o h => by
              rcases h with (h | h) | h
              · exact .inl h
              · exact .inr (.inr ⟨id, _, gh, rfl, hi, h⟩)
              · exact .inr (.inl h.1)
            iold := fun id h => rfl
            inew := fun gh' k h hk => by rw [c.fresh] at h; cases h
            nonew := fun h => rfl
            upd := fun id o h => by cases h; trivial
            new := fun o h => by cases h
            val := retA_rep hr }⟩
        · cases h
      · cases h
  · cases h
theorem flatD_rep {w' : World} {ro' : Nat → Nat → Prop} {v : Value} {c : DVal E.Den} (h : flatD c = true) (hr : DRep E w ro v c) : DRep E w' ro' v c := by
  cases hr <;> first | exact .bool _ | exact .int _ _ | exact .str _ | cases h
theorem flat_trep {w' : World} {ro' : Nat → Nat → Prop} {v : Value} {t : E.Ty} {x : E.Den t} (h : (E.cells t x).all flatD = true) (hr : TRep E w ro v t x) : TRep E w' ro' v t x := by
  rw [List.all_eq_true] at h
  rcases hr with ⟨ha, vs, hv, hrow⟩ | ⟨ha, c, hc, hd⟩
  · exact .inl ⟨ha, vs, hv, hrow.1, fun j u c hu hc => flatD_rep (h c (List.mem_of_getElem? hc)) (hrow.2 j u c hu hc)⟩
  · exact .inr ⟨ha, c, hc, flatD_rep (h c (by rw [hc]; exact List.mem_cons_self)) hd⟩
theorem flat_args {w' : World} {ro' : Nat → Nat → Prop} : ∀ {vs : List Value} {rs : List (TV E)}, flatR rs = true → ArgsRep E w ro vs rs → ArgsRep E w' ro' vs rs
  | [], [], _, _ => trivial
  | v :: vs, ⟨t, x⟩ :: r, h, hr => by
    simp only [flatR, Bool.and_eq_true] at h
    exact ⟨flat_trep h.1 hr.1, flat_args h.2 hr.2⟩
  | [], _ :: _, _, h => h.elim
  | _ :: _, [], _, h => h.elim
theorem flat_ret {w' : World} {ro' : Nat → Nat → Prop} {v : Value} {rs : List (TV E)} (h : flatR rs = true) (hr : RetRep E w ro v rs) : RetRep E w' ro' v rs := by
  unfold RetRep at hr ⊢
  split at hr
  · simp only [flatR, Bool.and_eq_true] at h
    exact flat_trep h.1 hr
  · obtain ⟨vs, hv, ha⟩ := hr
    exact ⟨vs, hv, flat_args h ha⟩
def borRo (E : Env P) (objs : List (Nat × AObj E)) (ι : Nat → Option Gh) (ro : Nat → Nat → Prop) : Nat → Nat → Prop := fun k o => ro k o ∨ ∃ id t l gh, look objs id = some (.row t l) ∧ ι id = some gh ∧ gh.blk = some k
theorem openB_rep (c : Ctx E S asm a w ι ro) {v : Value} {x : AV E} (h : Rep E w ro ι v x) : Rep E w (borRo E S.objs ι ro) ι v (openB S.objs x) := by
  have hro : ∀ k o, ro k o → borRo E S.objs ι ro k o := fun _ _ h => .inl h
  have hm := h.mono (ro' := borRo E S.objs ι ro) hro (fun _ _ _ => rfl) (fun _ _ h => h)
  cases h with
  | row gh t id ad cap hi h2 h3 h4 h5 =>
    show Rep E w _ ι gh.v (match look S.objs id with | some (.row t' l) => .d (.slice t' l) | _ => .row t gh.n id)
    split
    · rename_i t' l hob
      obtain ⟨gh', ys, hi', hn, hge, hgs, hown, hrow, hnro⟩ := c.objs id _ hob
      rw [hi] at hi'
      cases hi'
      refine .d _ _ (slice_of_rowD (xs := ys) (b := gh.blk) ?_ (fun g o hg _ => .inr ⟨id, t', l, gh, hob, hi, hg⟩) (hrow.mono hro (fun _ _ _ => rfl)))
      rcases hown with ⟨h, hb⟩ | ⟨h0, h1, h2, h3⟩
      · exact .inl ⟨by rw [← hge, ← hgs, ← hn]; exact h, hb⟩
      · exact .inr ⟨by rw [← hn]; exact h0, h1, h2, h3⟩
    · exact hm
  | _ => exact hm
theorem openBV_rep (c : Ctx E S asm a w ι ro) {v : Value} {x : AV E} (h : Rep E w ro ι v x) : Rep E w (borRo E S.objs ι ro) ι v (openBV S.objs x) := by
  have h1 := openB_rep c h
  cases h with
  | agg vs cs hs hi =>
    refine .agg vs _ (by simp [hs]) fun j v y hv hy => ?_
    rw [List.getElem?_map] at hy
    cases hx : cs[j]? with
    | none => rw [hx] at hy; cases hy
    | some z => rw [hx] at hy; cases hy; exact openB_rep c (hi j v z hv hx)
  | _ => exact h1
theorem done_callB (c : Ctx E S asm a w ι ro) {O : Oracle E} (hO : OracleOk E O) {o : Oper} {f : FuncId} {cal : Operand} {as : Array Operand} {ts : Array TypeId} (ho : o.op = .call { callee := .value cal, args := as, argTypes := ts }) (hfo : a.eval cal = .func (.func f) #[] #[])
    {r : Res E} (h : evCallB O S.objs f ts.toList (argsA S.tmps asm as) = some r) (hok : r.ok = true) : OpDone E o a w ι ro S.next r := by
  unfold evCallB at h
  split at h
  · split at h
    · rename_i xs hxs
      split at h
      · rename_i ok res hres
        split at h
        · rename_i hfl
          cases h
          have hok : ok = true := hok
          subst hok
          have hrolt : ∀ k o, borRo E S.objs ι ro k o → k < w.heap.size := by
            rintro k o (h | ⟨id, t, l, gh, h1, h2, h3⟩)
            · exact c.rolt k o h
            · obtain ⟨gh', ys, hi', hn, hge, hgs, hown, hrow, hnro⟩ := c.objs id _ h1
              rw [h2] at hi'
              cases hi'
              exact hown.lt h3
          have args : ArgsRep E w (borRo E S.objs ι ro) (as.toList.map a.eval) xs :=
            foldArgs_rep (ι := ι) ts.toList _ _ xs (by simp [argsA]) (fun i v x hv hx => by
              rw [List.getElem?_map] at hx
              unfold argsA at hx
              rw [List.getElem?_map] at hv hx
              cases hi' : as.toList[i]? with
              | none => rw [hi'] at hv; cases hv
              | some y =>
                rw [hi'] at hv hx
                cases hv; cases hx
                exact openBV_rep c (c.get y)) hxs
          obtain ⟨hfn, hcalls⟩ := hO.1 f xs res hres
          have enter := enter_of (a := a) (w := w) (P := P) ho hfo hfn
          refine .inr (.inr ⟨f, _, enter, (hcalls w _ _ args hrolt).mono fun e w' he => ?_⟩)
          obtain ⟨v, rfl, hb, hr⟩ := he
          refine ⟨v, ι, ro, rfl, {
            os := hb.os
            tape := hb.tape
            output := hb.output
            size := hb.size
            frame := fun k hk _ => hb.block k hk
            cell := fun k o h => hb.cell (p := ⟨k, o, none⟩) (c.rolt k o h)
            mono := fun _ _ h => h
            rolt := fun k o h => Nat.lt_of_lt_of_le (c.rolt k o h) hb.size
            fresh := fun k o h => .inl h
            iold := fun id h => rfl
            inew := fun gh' k h hk => by rw [c.fresh] at h; cases h
            nonew := fun h => rfl
            upd := fun id o h => by cases h
            new := fun o h => by cases h
            val := retA_rep (flat_ret hfl hr) }⟩
        · cases h
      · cases h
    · cases h
  · cases h
theorem dAll_eq : ∀ {cs : List (AV E)} {ds : List (DVal E.Den)}, dAll cs = some ds → cs = ds.map AVal.d
  | [], ds, h => by cases h; rfl
  | v :: r, ds, h => by
    unfold dAll at h
    split at h
    · rename_i heq; cases heq
    · rename_i c r' heq
      cases heq
      split at h
      · rename_i l hl
        cases h
        rw [dAll_eq hl]; rfl
      · cases h
    · cases h
def borP (E : Env P) (objs : List (Nat × AObj E)) (ι : Nat → Option Gh) (ro : Nat → Nat → Prop) : Nat → Nat → Prop := fun k o => ro k o ∨ ∃ id cs gh, look objs id = some (.box cs) ∧ ι id = some gh ∧ gh.blk = some k
theorem lendP_rep (c : Ctx E S asm a w ι ro) : ∀ {args xs : List (AV E)} {vals : List Value}, lendP S.objs args = some xs → vals.length = args.length → (∀ (i : Nat) v x, vals[i]? = some v → args[i]? = some x → Rep E w ro ι v x) →
    vals.length = xs.length ∧ ∀ (i : Nat) v x, vals[i]? = some v → xs[i]? = some x → Rep E w (borP E S.objs ι ro) (fun _ => none) v x
  | [], xs, vals, h, hl, _ => by cases h; exact ⟨hl, fun i v x _ hx => by simp at hx⟩
  | y :: r, xs, vals, h, hl, hr => by
    match vals, hl with
    | u :: us, hl =>
      have hu := hr 0 u y rfl rfl
      have hus := fun i v x (hv : us[i]? = some v) (hx : r[i]? = some x) => hr (i + 1) v x (by simpa using hv) (by simpa using hx)
      have hl' : us.length = r.length := by simpa using hl
      unfold lendP at h
      split at h
      · rename_i heq; cases heq
      · rename_i id off r' heq
        cases heq
        split at h
        · rename_i cs hob
          split at h
          · rename_i ds hds
            split at h
            · rename_i l hl2
              cases h
              obtain ⟨q1, q2⟩ := lendP_rep c hl2 hl' hus
              refine ⟨by simpa using q1, fun i v x hv hx => ?_⟩
              cases i with
              | succ i => exact q2 i v x (by simpa using hv) (by simpa using hx)
              | zero =>
                simp only [List.getElem?_cons_zero, Option.some.injEq] at hv hx
                subst hv; subst hx
                obtain ⟨gh, g, vs, e, hi, hgv, hblk, hh, hsz, hcell, hnro, _⟩ := c.objs id _ hob
                cases hu with
                | ptr gh' g' id' off' hi' hgv' =>
                  rw [hi] at hi'; cases hi'
                  rw [hgv] at hgv'; cases hgv'
                  have hcs := dAll_eq hds
                  refine .pelt g off (fun j => vs.getD (off + j) undef) (ds.drop off) (fun j c' hj => ?_) (fun j c' hj => ?_)
                  · rw [List.getElem?_drop] at hj
                    have hlt : off + j < vs.size := by rw [hsz, hcs, List.length_map]; exact (List.getElem?_eq_some_iff.1 hj).1
                    refine ⟨.inr ⟨id, cs, gh, hob, hi, hblk⟩, ?_⟩
                    simp [World.cell?, hh, Array.getD, hlt]
                  · rw [List.getElem?_drop] at hj
                    have hlt : off + j < vs.size := by rw [hsz, hcs, List.length_map]; exact (List.getElem?_eq_some_iff.1 hj).1
                    have h1 : vs[off + j]? = some (vs.getD (off + j) undef) := by simp [Array.getD, hlt]
                    have h2 : cs[off + j]? = some (.d c') := by rw [hcs, List.getElem?_map, hj]; rfl
                    have := (hcell _ _ _ h1 h2).2
                    generalize vs.getD (off + j) undef = vq at this ⊢
                    cases this with
                    | d _ _ hd => exact hd.mono (fun _ _ h => .inl h) (fun _ _ _ => rfl)
            · cases h
          · cases h
        · cases h
      · rename_i c' r' heq
        cases heq
        split at h
        · rename_i l hl2
          cases h
          obtain ⟨q1, q2⟩ := lendP_rep c hl2 hl' hus
          refine ⟨by simpa using q1, fun i v x hv hx => ?_⟩
          cases i with
          | succ i => exact q2 i v x (by simpa using hv) (by simpa using hx)
          | zero =>
            simp only [List.getElem?_cons_zero, Option.some.injEq] at hv hx
            subst hv; subst hx
            cases hu with
            | d _ _ hd => exact .d _ _ (hd.mono (fun _ _ h => .inl h) (fun _ _ _ => rfl))
        · cases h
      · rename_i t' x' r' heq
        cases heq
        split at h
        · rename_i l hl2
          cases h
          obtain ⟨q1, q2⟩ := lendP_rep c hl2 hl' hus
          refine ⟨by simpa using q1, fun i v x hv hx => ?_⟩
          cases i with
          | succ i => exact q2 i v x (by simpa using hv) (by simpa using hx)
          | zero =>
            simp only [List.getElem?_cons_zero, Option.some.injEq] at hv hx
            subst hv; subst hx
            cases hu with
            | st vs _ _ ha hrow => exact .st vs _ _ ha (hrow.mono (fun _ _ h => .inl h) (fun _ _ _ => rfl))
        · cases h
      · rename_i cs r' heq
        cases heq
        split at h
        · rename_i ds l hds hl2
          cases h
          obtain ⟨q1, q2⟩ := lendP_rep c hl2 hl' hus
          refine ⟨by simpa using q1, fun i v x hv hx => ?_⟩
          cases i with
          | succ i => exact q2 i v x (by simpa using hv) (by simpa using hx)
          | zero =>
            simp only [List.getElem?_cons_zero, Option.some.injEq] at hv hx
            subst hv; subst hx
            cases hu with
            | agg vs _ h1 h2 =>
              refine .agg vs _ h1 fun j v c' hv hj => ?_
              have := h2 j v c' hv hj
              rw [dAll_eq hds, List.getElem?_map] at hj
              cases hdj : ds[j]? with
              | none => rw [hdj] at hj; cases hj
              | some q =>
                rw [hdj] at hj
                cases hj
                cases this with
                | d _ _ hd => exact .d _ _ (hd.mono (fun _ _ h => .inl h) (fun _ _ _ => rfl))
        · cases h
      · cases h
theorem done_callP (c : Ctx E S asm a w ι ro) {O : Oracle E} (hO : OracleOk E O) {o : Oper} {f : FuncId} {cal : Operand} {as : Array Operand} {ts : Array TypeId} (ho : o.op = .call { callee := .value cal, args := as, argTypes := ts }) (hfo : a.eval cal = .func (.func f) #[] #[])
    {r : Res E} (h : evCallP O S.objs f (argsA S.tmps asm as) = some r) (hok : r.ok = true) : OpDone E o a w ι ro S.next r := by
  unfold evCallP at h
  split at h
  · split at h
    · rename_i xs hxs
      replace h : O.inl.run f xs [] 0 keepP = some r := by
        split at h
        · rename_i hq; rw [hq]; exact h
        · cases h
      have hrolt : ∀ k o, borP E S.objs ι ro k o → k < w.heap.size := by
        rintro k o (h | ⟨id, cs, gh, h1, h2, h3⟩)
        · exact c.rolt k o h
        · obtain ⟨gh', g, vs, e, hi', _, hblk, hh, _⟩ := c.objs id _ h1
          rw [h2] at hi'
          cases hi'
          rw [h3] at hblk
          cases hblk
          rcases Nat.lt_or_ge k w.heap.size with hl | hl
          · exact hl
          · rw [Array.getElem?_eq_none hl] at hh; cases hh
      obtain ⟨hl, hargs⟩ := lendP_rep c (vals := as.toList.map a.eval) hxs (by simp [argsA]) (fun i v x hv hx => by
        unfold argsA at hx
        rw [List.getElem?_map] at hv hx
        cases hi' : as.toList[i]? with
        | none => rw [hi'] at hv; cases hv
        | some y =>
          rw [hi'] at hv hx
          cases hv; cases hx
          exact c.get y)
      obtain ⟨hfn, hcalls⟩ := hO.2.2.2.2.1 f xs [] 0 keepP r h
      have enter := enter_of (a := a) (w := w) (P := P) ho hfo hfn
      have hb0 : Base ⟨w, none, none, [], fun _ => none⟩ (borP E S.objs ι ro) { tmps := #[], defers := [] } w (fun _ => none) (borP E S.objs ι ro) :=
        ⟨⟨rfl, rfl, rfl, Nat.le_refl _, fun _ _ _ => rfl⟩, hrolt, (fun _ _ h => .inl h), (fun _ _ _ h => by cases h), rfl, (fun _ h => by cases h), (fun _ _ h => by cases h)⟩
      refine .inr (.inr ⟨f, _, enter, (hcalls ⟨w, none, none, [], fun _ => none⟩ _ _ w (fun _ => none) _ _ hb0 (fun id o h => by cases h) (fun id id' o o' gh gh' k (h : look [] id = some o) => by cases h) (fun _ _ => rfl) (fun id o h => by cases h) hl hargs).mono fun e w' he => ?_⟩)
      obtain ⟨v, x, objs', next', ι', ro', rfl, hk, hrep, hb, _, _, _, _, hcell, _⟩ := he
      unfold keepP at hk
      split at hk
      · rename_i d
        split at hk
        · rename_i hfl
          cases hk
          have hbl := hb.below
          refine ⟨v, ι, ro, rfl, {
            os := hbl.os
            tape := hbl.tape
            output := hbl.output
            size := hbl.size
            frame := fun k hk _ => hbl.block k hk (fun e => by cases e)
            cell := fun k o h => (hcell k o (.inl h)).2
            mono := fun _ _ h => h
            rolt := fun k o h => Nat.lt_of_lt_of_le (c.rolt k o h) hbl.size
            fresh := fun k o h => .inl h
            iold := fun id h => rfl
            inew := fun gh' k h hk => by rw [c.fresh] at h; cases h
            nonew := fun h => rfl
            upd := fun id o h => by cases h
            new := fun o h => by cases h
            val := by
              cases hrep with
              | d _ _ hd => exact .d _ _ (flatD_rep hfl hd) }⟩
        · cases hk
      · cases hk
    · cases h
  · cases h
theorem app_rep {vs us : List Value} {p q : List (AV E)} (hl : vs.length = p.length) (h1 : ∀ (j : Nat) v c, vs[j]? = some v → p[j]? = some c → Rep E w ro ι v c) (h2 : ∀ (j : Nat) v c, us[j]? = some v → q[j]? = some c → Rep E w ro ι v c) :
    ∀ (j : Nat) v c, (vs ++ us)[j]? = some v → (p ++ q)[j]? = some c → Rep E w ro ι v c := by
  intro j v c hv hc
  rcases Nat.lt_or_ge j vs.length with h | h
  · rw [List.getElem?_append_left h] at hv
    rw [List.getElem?_append_left (by omega)] at hc
    exact h1 j v c hv hc
  · rw [List.getElem?_append_right h] at hv
    rw [List.getElem?_append_right (by omega), ← hl] at hc
    exact h2 _ v c hv hc
theorem args_at (c : Ctx E S asm a w ι ro) (as : Array Operand) : ∀ (i : Nat) v x, (as.toList.map a.eval)[i]? = some v → (argsA S.tmps asm as)[i]? = some x → Rep E w ro ι v x := fun i v x hv hx => by
  unfold argsA at hx
  rw [List.getElem?_map] at hv hx
  cases hi' : as.toList[i]? with
  | none => rw [hi'] at hv; cases hv
  | some y =>
    rw [hi'] at hv hx
    cases hv; cases hx
    exact c.get y
theorem foldTs_rep : ∀ (ts : List E.Ty) (vs : List Value) (as : List (AV E)) (xs : List (TV E)), vs.length = as.length → (∀ (i : Nat) v x, vs[i]? = some v → as[i]? = some x → Rep E w ro ι v x) → foldTs ts as = some xs → ArgsRep E w ro vs xs
  | [], [], [], xs, _, _, h => by cases h; trivial
  | t :: ts, v :: vs, x :: as, xs, hl, hr, h => by
    unfold foldTs at h
    split at h
    · rename_i y hy
      split at h
      · rename_i r hr'
        cases h
        exact ⟨foldA_rep (hr 0 v x rfl rfl) hy, foldTs_rep ts vs as r (by simpa using hl) (fun i v x hv hx => hr (i + 1) v x (by simpa using hv) (by simpa using hx)) hr'⟩
      · cases h
    · cases h
  | [], v :: vs, x :: as, xs, _, _, h => by cases h
  | t :: ts, [], [], xs, _, _, h => by cases h
  | [], [], _ :: _, _, hl, _, _ => by simp at hl
  | [], _ :: _, [], _, hl, _, _ => by simp at hl
  | _ :: _, [], _ :: _, _, hl, _, _ => by simp at hl
  | _ :: _, _ :: _, [], _, hl, _, _ => by simp at hl
theorem argP_rep {s : ArgP E} {v : Value} {x : AV E} {y : Arg E} (h : Rep E w ro ι v x) (hs : argP s x = some y) : ARep E w ro v y := by
  unfold argP at hs
  split at hs
  · split at hs
    · rename_i z hz; cases hs; exact foldA_rep h hz
    · cases hs
  · rename_i f ps qs f' a b
    split at hs
    · rename_i p q hf hp hq
      cases hs
      have hf := Nat.eq_of_beq_eq_true hf
      subst hf
      cases h with
      | fn _ vs us _ _ h1 h2 h3 h4 => exact ⟨vs, us, rfl, foldTs_rep ps vs.toList a p (by simpa using h1) (fun i v x hv hx => h3 i v x (by simpa using hv) hx) hp, foldTs_rep qs us.toList b q (by simpa using h2) (fun i v x hv hx => h4 i v x (by simpa using hv) hx) hq⟩
    · cases hs
  · rename_i f f'
    split at hs
    · rename_i hf
      cases hs
      have hf := Nat.eq_of_beq_eq_true hf
      subst hf
      exact ⟨#[], #[], h.raw_inv, trivial, trivial⟩
    · cases hs
  · cases hs
theorem argPs_rep : ∀ {ss : List (ArgP E)} {as : List (AV E)} {xs : List (Arg E)}, argPs ss as = some xs → as.length = xs.length ∧ ∀ (i : Nat) v x y, as[i]? = some x → xs[i]? = some y → Rep E w ro ι v x → ARep E w ro v y
  | [], [], xs, h => by cases h; exact ⟨rfl, fun i v x y hx => by simp at hx⟩
  | s :: ss, x :: as, xs, h => by
    unfold argPs at h
    split at h
    · rename_i y hy
      split at h
      · rename_i r hr
        cases h
        obtain ⟨h1, h2⟩ := argPs_rep hr
        refine ⟨by simp [h1], fun i v x' y' hx hy' hrep => ?_⟩
        cases i with
        | zero => simp at hx hy'; subst hx; subst hy'; exact argP_rep hrep hy
        | succ i => exact h2 i v x' y' (by simpa using hx) (by simpa using hy') hrep
      · cases h
    · cases h
  | [], _ :: _, _, h => by cases h
  | _ :: _, [], _, h => by cases h
theorem tryA_inv {as : List (AV E)} {r : Res E} : ∀ {l : List (List (ArgP E) × (List (Arg E) → Option (Bool × List (TV E))))}, tryA as l = some r → ∃ p ∈ l, ∃ xs ok res, argPs p.1 as = some xs ∧ p.2 xs = some (ok, res) ∧ r = ⟨ok, retA res, none, none⟩
  | [], h => by cases h
  | p :: l, h => by
    unfold tryA at h
    have next : tryA as l = some r → ∃ p' ∈ p :: l, ∃ xs ok res, argPs p'.1 as = some xs ∧ p'.2 xs = some (ok, res) ∧ r = ⟨ok, retA res, none, none⟩ := fun h => by
      obtain ⟨p', hp, q⟩ := tryA_inv h
      exact ⟨p', List.mem_cons_of_mem _ hp, q⟩
    split at h
    · rename_i xs hxs
      split at h
      · rename_i ok res hres
        cases h
        exact ⟨p, List.mem_cons_self, xs, ok, res, hxs, hres, rfl⟩
      · exact next h
    · exact next h
theorem tryA_pure {as : List (AV E)} {r : Res E} {l : List (List (ArgP E) × (List (Arg E) → Option (Bool × List (TV E))))} (h : tryA as l = some r) : r.upd = none ∧ r.new = none := by
  obtain ⟨_, _, _, _, _, _, _, rfl⟩ := tryA_inv h
  exact ⟨rfl, rfl⟩
theorem done_callA (c : Ctx E S asm a w ι ro) {O : Oracle E} (hO : OracleOk E O) {o : Oper} {f : FuncId} {vals : List Value} {avs : List (AV E)} (hl : vals.length = avs.length) (hr : ∀ (i : Nat) v x, vals[i]? = some v → avs[i]? = some x → Rep E w ro ι v x)
    (enter : (∃ fn, P.funcs[f]? = some fn ∧ (fn.name == "runtime.NumGoroutine") = false ∧ fn.body.isNone = false) → (execOp a.eval o).run P w = .ok (.enter f vals.toArray) w) {r : Res E} (h : evCallA O f avs = some r) (hok : r.ok = true) : OpDone E o a w ι ro S.next r := by
  obtain ⟨p, hp, xs, ok, res, hxs, hres, rfl⟩ := tryA_inv h
  have hok : ok = true := hok
  subst hok
  obtain ⟨hfn, hcalls⟩ := hO.2.2.2.2.2.2.2.2 f p xs res hp hres
  obtain ⟨q1, q2⟩ := argPs_rep (w := w) (ro := ro) (ι := ι) hxs
  refine .inr (.inr ⟨f, _, enter hfn, (hcalls w ro vals (hl.trans q1) (fun i v y hv hy => ?_) c.rolt).mono fun e w' he => ?_⟩)
  · have hi : i < avs.length := by rw [q1]; exact (List.getElem?_eq_some_iff.1 hy).1
    exact q2 i v _ y (List.getElem?_eq_getElem hi) hy (hr i v _ hv (List.getElem?_eq_getElem hi))
  · obtain ⟨v, rfl, hb, hr⟩ := he
    have hcell : ∀ k o, ro k o → w'.cell? ⟨k, o, none⟩ = w.cell? ⟨k, o, none⟩ := fun k o h => hb.cell (p := ⟨k, o, none⟩) (c.rolt k o h)
    exact ⟨v, ι, _, rfl, {
      os := hb.os
      tape := hb.tape
      output := hb.output
      size := hb.size
      frame := fun k hk _ => hb.block k hk
      cell := hcell
      mono := fun _ _ h => .inl h
      rolt := fun k o h => by
        rcases h with h | ⟨_, h⟩
        · exact Nat.lt_of_lt_of_le (c.rolt k o h) hb.size
        · exact h
      fresh := fun k o h => by
        rcases h with h | ⟨h, _⟩
        · exact .inl h
        · exact .inr (.inl h)
      iold := fun _ _ => rfl
      inew := fun gh k h => by rw [c.fresh] at h; cases h
      nonew := fun _ => rfl
      upd := fun id o h => by cases h
      new := fun o h => by cases h
      val := retA_rep hr }⟩
theorem toDs_rep {vs : Array Value} : ∀ {cs : List (AV E)} {ds : List (DVal E.Den)}, toDs cs = some ds → cs.length = ds.length ∧ ∀ (j : Nat) c d, cs[j]? = some c → ds[j]? = some d → toD c = some d
  | [], ds, h => by cases h; exact ⟨rfl, fun j c d hc => by simp at hc⟩
  | c :: cs, ds, h => by
    unfold toDs at h
    split at h
    · rename_i d h1
      split at h
      · rename_i ds' h2
        cases h
        obtain ⟨hl, hat⟩ := toDs_rep (vs := vs) h2
        refine ⟨by simp [hl], fun j c' d' hc hd => ?_⟩
        cases j with
        | zero => simp at hc hd; subst hc; subst hd; exact h1
        | succ j => exact hat j c' d' (by simpa using hc) (by simpa using hd)
      · cases h
    · cases h
theorem done_callX (c : Ctx E S asm a w ι ro) {O : Oracle E} (hO : OracleOk E O) {o : Oper} {f : FuncId} {cal : Operand} {as : Array Operand} {ts : Array TypeId} (ho : o.op = .call { callee := .value cal, args := as, argTypes := ts }) (hfo : a.eval cal = .func (.func f) #[] #[])
    {r : Res E} (h : evCallX O S.objs f ts.toList (argsA S.tmps asm as) = some r) (hok : r.ok = true) : OpDone E o a w ι ro S.next r := by
  have hargs : ∀ (i : Nat) v x, (as.toList.map a.eval)[i]? = some v → (argsA S.tmps asm as)[i]? = some x → Rep E w ro ι v x := fun i v x hv hx => by
    unfold argsA at hx
    rw [List.getElem?_map] at hv hx
    cases hi' : as.toList[i]? with
    | none => rw [hi'] at hv; cases hv
    | some y =>
      rw [hi'] at hv hx
      cases hv; cases hx
      exact c.get y
  have hlen : (as.toList.map a.eval).length = (argsA S.tmps asm as).length := by simp [argsA]
  have enter := enter_of (a := a) (w := w) (P := P) ho hfo
  generalize as.toList.map a.eval = vals at hargs hlen enter
  generalize argsA S.tmps asm as = avs at h hargs hlen
  unfold evCallX at h
  split at h
  · cases h
  · rename_i t hbt
    split at h
    · rename_i T Ts id rest hts
      cases vals with
      | nil => simp at hlen
      | cons v vals =>
        have hr0 := hargs 0 v _ rfl rfl
        have hrest : ∀ (i : Nat) u x, vals[i]? = some u → rest[i]? = some x → Rep E w ro ι u x := fun i u x hu hx => hargs (i + 1) u x (by simpa using hu) (by simpa using hx)
        have hlen' : vals.length = rest.length := by simpa using hlen
        split at h
        · rename_i cs hob
          split at h
          · rename_i x hx
            split at h
            · rename_i xs hxs
              split at h
              · rename_i ok y res hbf
                cases h
                have hok : ok = true := hok
                subst hok
                have args := foldArgs_rep (ι := ι) Ts vals rest xs hlen' hrest hxs
                obtain ⟨gh, g, vs, e, hi, hgv, hblk, hh, hsz, hcell, hnro, hge⟩ := c.objs id _ hob
                have hv : v = .pointer (some ⟨g, 0, none⟩) := by
                  cases hr0 with
                  | ptr gh' g' _ _ h1 h2 => rw [h1] at hi; cases hi; rw [hgv] at h2; cases h2; rfl
                subst hv
                have hrow : RowRep E w ro vs (E.cells t x) := by
                  unfold foldB at hx
                  split at hx
                  · rename_i ds hds
                    obtain ⟨hl, hat⟩ := toDs_rep (vs := vs) hds
                    refine RowRep.le (E.fold_ok t ds x hx) ⟨by rw [hsz, hl], fun j u d hu hd => ?_⟩
                    have hj : j < cs.length := by rw [hl]; exact (List.getElem?_eq_some_iff.1 hd).1
                    exact toD_rep (hcell j u _ hu (List.getElem?_eq_getElem hj)).2 (hat j _ d (List.getElem?_eq_getElem hj) hd)
                  · cases hx
                obtain ⟨hfn, hcalls⟩ := hO.2.2.2.2.2.2.2.1 f t x xs y res hbf
                have hglt : g < w.heap.size := by
                  rcases Nat.lt_or_ge g w.heap.size with hl | hl
                  · exact hl
                  · rw [Array.getElem?_eq_none hl] at hh; cases hh
                refine .inr (.inr ⟨f, _, enter hfn, (hcalls w ro g e vs vals hh hrow hnro args c.rolt).mono fun ed w' he => ?_⟩)
                obtain ⟨v, vs', rfl, hgrow, hh', hrow', hret⟩ := he
                have hcellk : ∀ k o, ro k o → w'.cell? ⟨k, o, none⟩ = w.cell? ⟨k, o, none⟩ := fun k o h => World.cell?_of_block (hgrow.block k (c.rolt k o h) (fun e => by cases e; exact hnro o h))
                exact ⟨v, ι, fun k o => ro k o ∨ (w.heap.size ≤ k ∧ k < w'.heap.size), rfl, {
                  os := hgrow.os
                  tape := hgrow.tape
                  output := hgrow.output
                  size := hgrow.size
                  frame := fun k hk hne => hgrow.block k hk (fun e => by cases e; exact hne id _ gh rfl hi hblk)
                  cell := hcellk
                  mono := fun _ _ h => .inl h
                  rolt := fun k o h => by
                    rcases h with h | h
                    · exact Nat.lt_of_lt_of_le (c.rolt k o h) hgrow.size
                    · exact h.2
                  fresh := fun k o h => by
                    rcases h with h | h
                    · exact .inl h
                    · exact .inr (.inl h.1)
                  iold := fun _ _ => rfl
                  inew := fun gh'' k h _ => by rw [c.fresh] at h; cases h
                  nonew := fun _ => rfl
                  upd := fun id' o h => by
                    cases h
                    refine ⟨gh, g, vs', e, hi, hgv, hblk, hh', by rw [hrow'.1, List.length_map], fun j u q hu hq => ?_, fun o h => ?_, hge⟩
                    · rw [List.getElem?_map] at hq
                      cases hj : (E.cells t y)[j]? with
                      | none => rw [hj] at hq; cases hq
                      | some d =>
                        rw [hj] at hq
                        cases hq
                        have := hrow'.2 j u d hu hj
                        exact ⟨this.one, .d _ _ this⟩
                    · rcases h with h | h
                      · exact hnro o h
                      · omega
                  new := fun o h => by cases h
                  val := retA_rep hret }⟩
              · cases h
            · cases h
          · cases h
        · cases h
    · cases h
theorem done_callC (c : Ctx E S asm a w ι ro) {O : Oracle E} (hO : OracleOk E O) {o : Oper} {f : FuncId} {cal : Operand} {as : Array Operand} {ts : Array TypeId} (ho : o.op = .call { callee := .value cal, args := as, argTypes := ts }) (hfo : a.eval cal = .func (.func f) #[] #[])
    {r : Res E} (h : evCallC O S.objs f (argsA S.tmps asm as) = some r) (hok : r.ok = true) : OpDone E o a w ι ro S.next r := by
  unfold evCallC at h
  split at h
  · cases h
  · rename_i f' T hcc
    split at h
    · rename_i id hf hargs
      have hf := Nat.eq_of_beq_eq_true hf
      subst hf
      split at h
      · rename_i T' id' c1 hob
        split at h
        · rename_i hb
          rw [Bool.and_eq_true] at hb
          obtain ⟨b1, b2⟩ := hb
          have b1 := Nat.eq_of_beq_eq_true b1
          have b2 := Nat.eq_of_beq_eq_true b2
          subst b1; subst b2
          cases h
          obtain ⟨hfn, h1, h2⟩ := hO.2.2.2.2.2.1 f' _ hcc
          obtain ⟨s, rfl, hs⟩ : ∃ s, as = #[s] ∧ getA S.tmps asm s = .ptr id' 0 := by
            unfold argsA at hargs
            obtain ⟨l⟩ := as
            match l, hargs with
            | [s], hargs => exact ⟨s, rfl, by simpa using hargs⟩
            | [], hargs => simp at hargs
            | _ :: _ :: _, hargs => simp at hargs
          obtain ⟨gh, g, vs, e, hi, hgv, hblk, hh, hsz, hcell, hnro, hge⟩ := c.objs id' _ hob
          have hv := c.get s
          rw [hs] at hv
          generalize hvs : a.eval s = vs0 at hv
          cases hv with
          | ptr gh' g' _ _ hi' hgv' =>
            rw [hi] at hi'; cases hi'
            rw [hgv] at hgv'; cases hgv'
            have hsz2 : vs.size = 2 := hsz
            obtain ⟨v0, e0⟩ : ∃ v0, vs[0]? = some v0 := ⟨_, Array.getElem?_eq_getElem (show 0 < vs.size by omega)⟩
            obtain ⟨_, hr0⟩ := hcell 0 _ _ e0 rfl
            have hglt : g < w.heap.size := by
              rcases Nat.lt_or_ge g w.heap.size with hl | hl
              · exact hl
              · rw [Array.getElem?_eq_none hl] at hh; cases hh
            have hc0 : w.cell? ⟨g, 0, none⟩ = some v0 := by simp [World.cell?, hh, e0]
            have enter := enter_of (a := a) (w := w) (P := P) ho hfo hfn
            have args : (#[s].toList.map a.eval).toArray = #[.pointer (some ⟨g, 0, none⟩)] := by simp [hvs]
            rw [args] at enter
            -- what is left of the world: the box's first cell leads to the box
            have post : ∀ w', (w' = w ∧ v0 = .pointer (some ⟨g, 0, none⟩)) ∨ w' = w.setCell ⟨g, 0, none⟩ (.pointer (some ⟨g, 0, none⟩)) → OpPost E w w' ι ι ro ro S.next ⟨true, .tup [], some (id', .box [.mk T' id', c1]), none⟩ (.tuple #[]) := by
              intro w' hw'
              obtain ⟨vs', hh', hother, hsize, hos, htp, hout, hvs0, hvs1, hvss⟩ : ∃ vs', w'.heap[g]? = some (.cells vs' e (0, 0)) ∧ (∀ k, k ≠ g → w'.heap[k]? = w.heap[k]?) ∧ w'.heap.size = w.heap.size ∧ w'.os = w.os ∧ w'.tape = w.tape ∧ w'.output = w.output ∧ vs'[0]? = some (.pointer (some ⟨g, 0, none⟩)) ∧ vs'[1]? = vs[1]? ∧ vs'.size = 2 := by
                rcases hw' with ⟨rfl, hq⟩ | rfl
                · exact ⟨vs, hh, fun _ _ => rfl, rfl, rfl, rfl, rfl, by rw [e0, hq], rfl, hsz2⟩
                · refine ⟨vs.setIfInBounds 0 (.pointer (some ⟨g, 0, none⟩)), ?_, fun k hk => Below.heap_setCell _ _ _ k (fun e => hk e), by simp [World.setCell], rfl, rfl, rfl, ?_, ?_, by simp [hsz2]⟩
                  · simp [World.setCell, Array.getElem?_modify, hh]
                  · simp [Array.getElem?_setIfInBounds, hsz2]
                  · simp [Array.getElem?_setIfInBounds]
              have hcellk : ∀ k o, ro k o → w'.cell? ⟨k, o, none⟩ = w.cell? ⟨k, o, none⟩ := fun k o hk => by
                have : k ≠ g := fun e => by subst e; exact hnro o hk
                simp [World.cell?, hother k this]
              exact {
                os := hos
                tape := htp
                output := hout
                size := Nat.le_of_eq hsize.symm
                frame := fun k _ hk => hother k (fun e => by subst e; exact hk id' _ gh rfl hi hblk)
                cell := hcellk
                mono := fun _ _ h => h
                rolt := fun k o h => by rw [hsize]; exact c.rolt k o h
                fresh := fun k o h => .inl h
                iold := fun _ _ => rfl
                inew := fun gh' k h _ => by rw [c.fresh] at h; cases h
                nonew := fun _ => rfl
                upd := fun id o h => by
                  cases h
                  refine ⟨gh, g, vs', e, hi, hgv, hblk, hh', hvss, fun j v x hv hx => ?_, hnro, hge⟩
                  match j, hv, hx with
                  | 0, hv, hx =>
                    rw [hvs0] at hv; cases hv
                    simp at hx; subst hx
                    refine ⟨rfl, ?_⟩
                    cases hr0 with
                    | mk gh2 _ g2 _ _ q1 q2 q3 _ => exact .mk gh2 _ g2 T' id' q1 q2 q3 (.inr (by rw [hi] at q1; cases q1; rw [hgv] at q2; cases q2; rfl))
                  | 1, hv, hx =>
                    rw [hvs1] at hv
                    simp at hx; subst hx
                    obtain ⟨g1, g2⟩ := hcell 1 v _ hv rfl
                    exact ⟨g1, g2.mono (fun _ _ h => h) hcellk (fun _ _ h => h)⟩
                  | j + 2, _, hx => simp at hx
                new := fun o h => by cases h
                val := .tup _ _ rfl (fun j v x hv _ => by simp at hv) }
            cases hr0 with
            | mk gh2 _ g2 _ _ q1 q2 q3 q4 =>
              rw [hi] at q1; cases q1
              rw [hgv] at q2; cases q2
              rcases q4 with q4 | q4
              · refine .inr (.inr ⟨f', _, enter, (h1 w g (by rw [hc0, q4]) (by simp [World.shape?, hh, hsz2, ← hge, q3]) (by simp [World.frozen?, hh])).mono fun e w' he => ?_⟩)
                obtain ⟨rfl, hw'⟩ := he
                exact ⟨_, ι, ro, rfl, post w' (.inr hw')⟩
              · refine .inr (.inr ⟨f', _, enter, (h2 w g (by rw [hc0, q4])).mono fun e w' he => ?_⟩)
                obtain ⟨rfl, hw'⟩ := he
                exact ⟨_, ι, ro, rfl, post w' (.inl ⟨hw', q4⟩)⟩
        · cases h
      · cases h
    · cases h
theorem done_callG (c : Ctx E S asm a w ι ro) {O : Oracle E} (hO : OracleOk E O) {o : Oper} {f : FuncId} {cal : Operand} {as : Array Operand} {ts : Array TypeId} (ho : o.op = .call { callee := .value cal, args := as, argTypes := ts }) (hfo : a.eval cal = .func (.func f) #[] #[])
    {r : Res E} (h : evCallG O S.next f (argsA S.tmps asm as) = some r) (hok : r.ok = true) : OpDone E o a w ι ro S.next r := by
  have hargs : ∀ (i : Nat) v x, (as.toList.map a.eval)[i]? = some v → (argsA S.tmps asm as)[i]? = some x → Rep E w ro ι v x := fun i v x hv hx => by
    unfold argsA at hx
    rw [List.getElem?_map] at hv hx
    cases hi' : as.toList[i]? with
    | none => rw [hi'] at hv; cases hv
    | some y =>
      rw [hi'] at hv hx
      cases hv; cases hx
      exact c.get y
  have hlen : (as.toList.map a.eval).length = (argsA S.tmps asm as).length := by simp [argsA]
  have enter := enter_of (a := a) (w := w) (P := P) ho hfo
  generalize as.toList.map a.eval = vals at hargs hlen enter
  generalize argsA S.tmps asm as = avs at h hargs hlen
  unfold evCallG at h
  split at h
  · rename_i t n hg
    cases h
    match vals, hlen with
    | [u, v], _ =>
    have e1 := (hargs 0 u _ rfl rfl).raw_inv
    have e2 := (hargs 1 v _ rfl rfl).int_inv
    subst e1; subst e2
    have hok : (decide (0 ≤ n) && decide (n * (E.bytes t : Int) ≤ 140737488355328)) = true := hok
    simp only [Bool.and_eq_true, decide_eq_true_eq] at hok
    obtain ⟨hfn, hcalls⟩ := hO.2.2.2.1 f t hg
    refine .inr (.inr ⟨f, _, enter hfn, (hcalls w n hok.1 hok.2).mono fun e w' he => ?_⟩)
    obtain ⟨gh, rfl, hb, hn, hge, hgs, hown, hblk⟩ := he
    have hcell : ∀ k o, ro k o → w'.cell? ⟨k, o, none⟩ = w.cell? ⟨k, o, none⟩ := fun k o h => hb.cell (p := ⟨k, o, none⟩) (c.rolt k o h)
    obtain ⟨ad, cap, hgv, had⟩ := hown.shape
    exact ⟨gh.v, setGh ι S.next gh, ro, rfl, {
      os := hb.os
      tape := hb.tape
      output := hb.output
      size := hb.size
      frame := fun k hk _ => hb.block k hk
      cell := hcell
      mono := fun _ _ h => h
      rolt := fun k o h => Nat.lt_of_lt_of_le (c.rolt k o h) hb.size
      fresh := fun k o h => .inl h
      iold := fun id h => if_neg h
      inew := fun gh' k h hk => by
        simp [setGh] at h
        subst h
        exact ⟨hown.lt hk, .inl (hblk k hk)⟩
      nonew := fun h => by cases h
      upd := fun id o h => by cases h
      new := fun o h => by
        cases h
        exact ⟨gh, [], if_pos rfl, hn, hge, hgs, hown, fun i x j cc h => by simp at h, fun g hg o hr => by have := c.rolt g o hr; have := hblk g hg; omega⟩
      val := by
        have hv : Rep E w' ro (setGh ι S.next gh) gh.v (.row t gh.n S.next) := .row gh t S.next ad cap (if_pos rfl) hge hgs hgv had
        rw [hn] at hv
        exact hv }⟩
  · cases h
theorem done_callM (c : Ctx E S asm a w ι ro) {O : Oracle E} (hO : OracleOk E O) {o : Oper} {f : FuncId} {cal : Operand} {as : Array Operand} {ts : Array TypeId} (ho : o.op = .call { callee := .value cal, args := as, argTypes := ts }) (hfo : a.eval cal = .func (.func f) #[] #[])
    {r : Res E} (h : evCallM O S.objs S.next f ts.toList (argsA S.tmps asm as) = some r) (hok : r.ok = true) : OpDone E o a w ι ro S.next r := by
  have hargs : ∀ (i : Nat) v x, (as.toList.map a.eval)[i]? = some v → (argsA S.tmps asm as)[i]? = some x → Rep E w ro ι v x := fun i v x hv hx => by
    unfold argsA at hx
    rw [List.getElem?_map] at hv hx
    cases hi' : as.toList[i]? with
    | none => rw [hi'] at hv; cases hv
    | some y =>
      rw [hi'] at hv hx
      cases hv; cases hx
      exact c.get y
  have hlen : (as.toList.map a.eval).length = (argsA S.tmps asm as).length := by simp [argsA]
  have enter := enter_of (a := a) (w := w) (P := P) ho hfo
  generalize as.toList.map a.eval = vals at hargs hlen enter
  generalize argsA S.tmps asm as = avs at h hargs hlen
  unfold evCallM at h
  split at h
  · rename_i T Ts t0 n0 id rest hts
    cases vals with
    | nil => simp at hlen
    | cons v vals =>
      have hr0 := hargs 0 v _ rfl rfl
      have hrest : ∀ (i : Nat) u x, vals[i]? = some u → rest[i]? = some x → Rep E w ro ι u x := fun i u x hu hx => hargs (i + 1) u x (by simpa using hu) (by simpa using hx)
      have hlen' : vals.length = rest.length := by simpa using hlen
      split at h
      · rename_i t l hob
        split at h
        · rename_i xs hxs
          have args := foldArgs_rep (ι := ι) Ts vals rest xs hlen' hrest hxs
          obtain ⟨gh, ys, hi, hn, hge, hgs, hown, hrow, hnro⟩ := c.objs id _ hob
          have hv : v = gh.v := by
            cases hr0 with
            | row gh' _ _ ad cap h1 h2 h3 h4 h5 => rw [h1] at hi; cases hi; rfl
          subst hv
          split at h
          · rename_i ok l' hres
            cases h
            have hok : ok = true := hok
            subst hok
            obtain ⟨hfn, hcalls⟩ := hO.2.2.1 f t l xs true l' hres
            refine .inr (.inr ⟨f, _, enter hfn, (hcalls w ro gh ys vals hn hge hgs hown hrow hnro args c.rolt).mono fun e w' he => ?_⟩)
            obtain ⟨val, gh', ys', rfl, hgrow, hn', hge', hgs', hown', hrow', hblk, hback, _⟩ := he
            obtain rfl := hback rfl
            have hcell : ∀ k o, ro k o → w'.cell? ⟨k, o, none⟩ = w.cell? ⟨k, o, none⟩ := fun k o h => World.cell?_of_block (hgrow.block k (c.rolt k o h) (fun e => hnro k e.symm o h))
            obtain ⟨ad, cap, hgv, had⟩ := hown'.shape
            exact ⟨gh'.v, setGh ι S.next gh', fun k o => ro k o ∨ (gh'.blk ≠ some k ∧ (gh.blk = some k ∨ w.heap.size ≤ k ∧ k < w'.heap.size)), rfl, {
              os := hgrow.os
              tape := hgrow.tape
              output := hgrow.output
              size := hgrow.size
              frame := fun k hk hne => hgrow.block k hk (fun e => hne id _ gh rfl hi e.symm)
              cell := hcell
              mono := fun _ _ h => .inl h
              rolt := fun k o h => by
                rcases h with h | ⟨_, h | h⟩
                · exact Nat.lt_of_lt_of_le (c.rolt k o h) hgrow.size
                · exact Nat.lt_of_lt_of_le (hown.lt h) hgrow.size
                · exact h.2
              fresh := fun k o h => by
                rcases h with h | ⟨_, h | h⟩
                · exact .inl h
                · exact .inr (.inr ⟨id, _, gh, rfl, hi, h⟩)
                · exact .inr (.inl h.1)
              iold := fun id h => if_neg h
              inew := fun gh'' k h hk => by
                simp [setGh] at h
                subst h
                refine ⟨hown'.lt hk, ?_⟩
                rcases hblk k hk with h | h
                · exact .inr ⟨id, _, gh, rfl, rfl, hi, h⟩
                · exact .inl h
              nonew := fun h => by cases h
              upd := fun id o h => by cases h; trivial
              new := fun o h => by
                cases h
                refine ⟨gh', ys', if_pos rfl, hn', hge', hgs', hown', hrow', fun g hg o hr => ?_⟩
                rcases hr with hr | ⟨hne, _⟩
                rotate_left
                · exact hne hg
                rcases hblk g hg with h | h
                · exact hnro g h o hr
                · have := c.rolt g o hr; omega
              val := by rw [← hn']; exact .row gh' t S.next ad cap (if_pos rfl) hge' hgs' hgv had }⟩
          · rename_i ok l' hres
            cases h
            have hok : ok = true := hok
            subst hok
            obtain ⟨hfn, hcalls⟩ := hO.2.2.1 f t l xs false l' hres
            refine .inr (.inr ⟨f, _, enter hfn, (hcalls w ro gh ys vals hn hge hgs hown hrow hnro args c.rolt).mono fun e w' he => ?_⟩)
            obtain ⟨val, gh', ys', rfl, hgrow, hn', hge', hgs', hown', hrow', hblk, _, hsame⟩ := he
            obtain rfl := hsame rfl
            have hcell : ∀ k o, ro k o → w'.cell? ⟨k, o, none⟩ = w.cell? ⟨k, o, none⟩ := fun k o h => World.cell?_of_block (hgrow.block k (c.rolt k o h) (fun e => hnro k e.symm o h))
            exact ⟨val, ι, fun k o => ro k o ∨ (gh'.blk ≠ some k ∧ (gh'.blk = some k ∨ w.heap.size ≤ k ∧ k < w'.heap.size)), rfl, {
              os := hgrow.os
              tape := hgrow.tape
              output := hgrow.output
              size := hgrow.size
              frame := fun k hk hne => hgrow.block k hk (fun e => hne id _ gh' rfl hi e.symm)
              cell := hcell
              mono := fun _ _ h => .inl h
              rolt := fun k o h => by
                rcases h with h | ⟨_, h | h⟩
                · exact Nat.lt_of_lt_of_le (c.rolt k o h) hgrow.size
                · exact Nat.lt_of_lt_of_le (hown.lt h) hgrow.size
                · exact h.2
              fresh := fun k o h => by
                rcases h with h | ⟨_, h | h⟩
                · exact .inl h
                · exact .inr (.inr ⟨id, _, gh', rfl, hi, h⟩)
                · exact .inr (.inl h.1)
              iold := fun id h => rfl
              inew := fun gh'' k h hk => by rw [c.fresh] at h; cases h
              nonew := fun h => rfl
              upd := fun id' o h => by
                cases h
                exact ⟨gh', ys', hi, hn', hge', hgs', hown', hrow', fun g hg o hr => by
                  rcases hr with hr | ⟨hne, _⟩
                  · exact hnro g hg o hr
                  · exact hne hg⟩
              new := fun o h => by cases h
              val := .any _ }⟩
          · cases h
        · cases h
      · cases h
  · rename_i T Ts rest hts
    cases vals with
    | nil => simp at hlen
    | cons v vals =>
      have e1 := (hargs 0 v _ rfl rfl).raw_inv
      subst e1
      have hrest : ∀ (i : Nat) u x, vals[i]? = some u → rest[i]? = some x → Rep E w ro ι u x := fun i u x hu hx => hargs (i + 1) u x (by simpa using hu) (by simpa using hx)
      have hlen' : vals.length = rest.length := by simpa using hlen
      split at h
      · rename_i e he
        split at h
        · rename_i t ht
          split at h
          · rename_i xs hxs
            have args := foldArgs_rep (ι := ι) Ts vals rest xs hlen' hrest hxs
            split at h
            · rename_i ok l' hres
              cases h
              have hok : ok = true := hok
              subst hok
              obtain ⟨hfn, hcalls⟩ := hO.2.2.1 f t [] xs true l' hres
              refine .inr (.inr ⟨f, _, enter hfn, (hcalls w ro ⟨.slice none 0 0, 0, E.tid t, E.size t, none⟩ [] vals rfl rfl rfl (.inl ⟨World.ownsRow_nil w 0 _ _, rfl⟩) (fun i x j cc h => by simp at h) (fun g hg => by cases hg) args c.rolt).mono fun e w' he => ?_⟩)
              obtain ⟨val, gh', ys', rfl, hgrow, hn', hge', hgs', hown', hrow', hblk, hback, _⟩ := he
              obtain rfl := hback rfl
              have hcell : ∀ k o, ro k o → w'.cell? ⟨k, o, none⟩ = w.cell? ⟨k, o, none⟩ := fun k o h => World.cell?_of_block (hgrow.block k (c.rolt k o h) (fun e => by cases e))
              obtain ⟨ad, cap, hgv, had⟩ := hown'.shape
              exact ⟨gh'.v, setGh ι S.next gh', fun k o => ro k o ∨ (gh'.blk ≠ some k ∧ ((none : Option Nat) = some k ∨ w.heap.size ≤ k ∧ k < w'.heap.size)), rfl, {
                os := hgrow.os
                tape := hgrow.tape
                output := hgrow.output
                size := hgrow.size
                frame := fun k hk _ => hgrow.block k hk (fun e => by cases e)
                cell := hcell
                mono := fun _ _ h => .inl h
                rolt := fun k o h => by
                  rcases h with h | ⟨_, h | h⟩
                  · exact Nat.lt_of_lt_of_le (c.rolt k o h) hgrow.size
                  · cases h
                  · exact h.2
                fresh := fun k o h => by
                  rcases h with h | ⟨_, h | h⟩
                  · exact .inl h
                  · cases h
                  · exact .inr (.inl h.1)
                iold := fun id h => if_neg h
                inew := fun gh'' k h hk => by
                  simp [setGh] at h
                  subst h
                  refine ⟨hown'.lt hk, ?_⟩
                  rcases hblk k hk with h | h
                  · cases h
                  · exact .inl h
                nonew := fun h => by cases h
                upd := fun id o h => by cases h
                new := fun o h => by
                  cases h
                  refine ⟨gh', ys', if_pos rfl, hn', hge', hgs', hown', hrow', fun g hg o hr => ?_⟩
                  rcases hr with hr | ⟨hne, _⟩
                  · rcases hblk g hg with h | h
                    · cases h
                    · have := c.rolt g o hr; omega
                  · exact hne hg
                val := by rw [← hn']; exact .row gh' t S.next ad cap (if_pos rfl) hge' hgs' hgv had }⟩
            · cases h
          · cases h
        · cases h
      · cases h
  · cases h
theorem done_buildEmpty (c : Ctx E S asm a w ι ro) {o : Oper} {T : TypeId} {n : Nat} {ps : Array (Nat × Operand)} (ho : o.op = .buildSlice T n ps) {r : Res E} (h : evBuildEmpty S.next T n (partsA S.tmps asm ps) = some r) :
    OpDone E o a w ι ro S.next r := by
  unfold evBuildEmpty at h
  split at h
  · rename_i hps
    split at h
    · rename_i e he
      split at h
      · rename_i t ht
        cases h
        have htid := E.code_ok e t ht
        subst htid
        have hu := elemT_inv he
        have hps' : ps = #[] := by
          have : ps.toList = [] := by simpa [partsA] using hps
          simpa using this
        subst hps'
        let gh : Gh := ⟨.slice (some ⟨w.heap.size, 0, none⟩) 0 0, 0, E.tid t, E.size t, none⟩
        refine .inl ⟨gh.v, w.alloc (.cells #[] (E.tid t)), setGh ι S.next gh, ro, ?_, {
          os := rfl
          tape := rfl
          output := rfl
          size := by simp
          frame := fun k hk _ => heap_alloc_old w _ hk
          cell := fun k o h => cell_alloc w _ (c.rolt k o h) o
          mono := fun _ _ h => h
          rolt := fun k o h => by have := c.rolt k o h; simp; omega
          fresh := fun k o h => .inl h
          iold := fun id h => if_neg h
          inew := fun gh' k h hk => by
            simp [setGh] at h
            subst h
            cases hk
          nonew := fun h => by cases h
          upd := fun id o h => by cases h
          new := fun o h => by
            cases h
            exact ⟨gh, [], if_pos rfl, rfl, rfl, rfl, .inr ⟨rfl, rfl, rfl, _, rfl⟩, fun i x j cc h => by simp at h, fun g hg => by cases hg⟩
          val := .row gh t S.next _ 0 (if_pos rfl) rfl rfl rfl (fun h => by cases h) }⟩
        simp only [execOp, ho, Instr.buildSlice]
        simp only [Sem.run_bind, run_underlying hu, Result.andThen_ok, run_size_tid, Nat.zero_mul]
        have e0 : Array.map (fun _ => (default : Value)) (Array.range 0) = #[] := Array.eq_empty_of_size_eq_zero (by simp)
        simp [Instr.fill, newRow, gh, e0]
      · cases h
    · cases h
  · cases h
theorem OpPost.rowset (c : Ctx E S asm a w ι ro) {gh : Gh} {g id cap : Nat} {t : E.Ty} {l : List (E.Den t)} {cur : Array Value} (hi : ι id = some gh) (hgv : gh.v = .slice (some ⟨g, 0, none⟩) gh.n cap) (hblk : gh.blk = some g)
    (hh : w.heap[g]? = some (.cells cur gh.e (0, 0))) (hnc : gh.n ≤ cap) (hcm : cap ≤ maxLen) (hcs : cur.size = cap * gh.sz) (hn : gh.n = l.length) (hge : gh.e = E.tid t) (hgs : gh.sz = E.size t) (hnro : ∀ o, ¬ ro g o) (new : List Value) (hnewl : new.length = cur.size)
    (hrow : RowD E w ro t (new.take (gh.n * gh.sz)) l) {val : Value} {k : IntKind} {q : Int} (hval : val = .int k q) :
    OpPost E w (w.setRow g new.toArray) ι ι ro ro S.next ⟨true, .d (.int k q), some (id, .row t l), none⟩ val := by
  have hcellro : ∀ k o, ro k o → (w.setRow g new.toArray).cell? ⟨k, o, none⟩ = w.cell? ⟨k, o, none⟩ := by
    intro k o hro
    exact World.cell?_of_block (setRow_other w g k _ (fun e => hnro o (by rw [← e]; exact hro)))
  have hmul2 : gh.n * gh.sz ≤ cap * gh.sz := Nat.mul_le_mul_right _ hnc
  exact {
    os := rfl
    tape := rfl
    output := rfl
    size := by simp [World.setRow]
    frame := fun k hk hne => setRow_other w g k _ (fun e => hne id _ gh rfl hi (by rw [hblk, e]))
    cell := hcellro
    mono := fun _ _ h => h
    rolt := fun k o h => by have := c.rolt k o h; simp [World.setRow]; exact this
    fresh := fun _ _ h => .inl h
    iold := fun _ _ => rfl
    inew := fun gh k h => by rw [c.fresh] at h; cases h
    nonew := fun _ => rfl
    upd := fun id' o' h => by
      cases h
      refine ⟨gh, new.take (gh.n * gh.sz), hi, hn, hge, hgs, .inl ⟨⟨by rw [List.length_take, hnewl, hcs]; exact Nat.min_eq_left hmul2, .inr ⟨g, cap, new.toArray, hgv, Nat.zero_le _, setRow_heap w g cur _ _ _ hh, hnc, hcm, by simp [hnewl, hcs], by simp⟩⟩, by rw [hblk, hgv]; rfl⟩,
        hrow.mono (fun _ _ h => h) hcellro, fun g' hg' o ho => ?_⟩
      rw [hblk] at hg'
      cases hg'
      exact hnro o ho
    new := fun o h => by cases h
    val := by rw [hval]; exact .d _ _ (.int _ _) }
theorem done_make (c : Ctx E S asm a w ι ro) {o : Oper} {T : TypeId} {n m : Operand} (ho : o.op = .makeSlice T n m) {r : Res E} (h : evMake S.next T (getA S.tmps asm n) (getA S.tmps asm m) = some r) (hok : r.ok = true) : OpDone E o a w ι ro S.next r := by
  have hn := c.get n
  have hm := c.get m
  generalize hvn : a.eval n = vn at hn
  generalize hvm : a.eval m = vm at hm
  generalize getA S.tmps asm n = N at *
  generalize getA S.tmps asm m = M at *
  unfold evMake at h
  split at h
  · rename_i e he
    split at h
    · rename_i t k1 l k2 q ht
      split at h
      · rename_i cs hcs
        split at h
        · rename_i ds hds
          split at h
          · rename_i x hx
            cases h
            have e1 := hn.int_inv
            have e2 := hm.int_inv
            subst e1; subst e2
            have htid := E.code_ok e t ht
            subst htid
            simp only [Bool.and_eq_true, decide_eq_true_eq] at hok
            obtain ⟨⟨h0, h1⟩, h2⟩ := hok
            obtain ⟨i, z, hi, his, hib, hz, hzs⟩ := E.info_ok t
            obtain ⟨i', z', hi', hz', hcs', _⟩ := run_zero (w := w) hcs
            rw [hi] at hi'
            cases hi'
            rw [hz] at hz'
            cases hz'
            have hpos := E.size_pos t
            have hbp := E.bytes_pos t
            have hq : q ≤ q * (E.bytes t : Int) := by
              have := Int.mul_le_mul_of_nonneg_left (show (1 : Int) ≤ (E.bytes t : Int) by omega) (show 0 ≤ q by omega)
              omega
            have hmb : (maxBytes : Int) = 140737488355328 := rfl
            have hrun := run_make (P := P) w T (E.tid t) i z (elemT_inv he) hi hz k1 k2 l q h0 h1 (by rw [hib, Int.mul_comm]; omega) (by omega)
            rw [his] at hrun
            let cur := madeCells z.cells (q.toNat * E.size t)
            have hcur : cur.size = q.toNat * E.size t := size_madeCells _ _
            have hle : l.toNat ≤ q.toNat := by omega
            have hmul : l.toNat * E.size t ≤ q.toNat * E.size t := Nat.mul_le_mul_right _ hle
            let gh : Gh := ⟨.slice (some ⟨w.heap.size, 0, none⟩) l.toNat q.toNat, l.toNat, E.tid t, E.size t, some w.heap.size⟩
            have hown : OwnT (w.alloc (.cells cur (E.tid t))) gh (cur.toList.take (l.toNat * E.size t)) :=
              .inl ⟨⟨by simp only [List.length_take, Array.length_toList, hcur]; exact Nat.min_eq_left hmul, .inr ⟨w.heap.size, q.toNat, cur, rfl, Nat.zero_le _, heap_alloc_new w _, hle, by unfold maxLen; omega, hcur, rfl⟩⟩, rfl⟩
            have hcell : ∀ k o, ro k o → (w.alloc (.cells cur (E.tid t))).cell? ⟨k, o, none⟩ = w.cell? ⟨k, o, none⟩ := fun k o h => cell_alloc w _ (c.rolt k o h) o
            have hlo := E.fold_ok t _ _ hx
            have hrow : RowD E (w.alloc (.cells cur (E.tid t))) ro t (cur.toList.take (l.toNat * E.size t)) (List.replicate l.toNat x) := by
              intro i0 y j cc hy hc
              have hil : i0 < l.toNat := by have := (List.getElem?_eq_some_iff.1 hy).1; simpa using this
              have hyx : y = x := by
                rw [List.getElem?_replicate] at hy
                rw [if_pos hil] at hy
                exact (Option.some.inj hy).symm
              subst hyx
              have hj : j < E.size t := by rw [← E.cells_len t y]; exact (List.getElem?_eq_some_iff.1 hc).1
              have hp : i0 * E.size t + j < l.toNat * E.size t := by
                have := Nat.mul_le_mul_right (E.size t) (show i0 + 1 ≤ l.toNat by omega)
                rw [Nat.succ_mul] at this
                omega
              have hjz : j < z.cells.size := by omega
              refine ⟨z.cells[j], ?_, ?_⟩
              · rw [List.getElem?_take_of_lt hp]
                show (madeCells z.cells (q.toNat * E.size t)).toList[i0 * E.size t + j]? = _
                unfold madeCells
                have e3 : (i0 * E.size t + j) % z.cells.size = j := by rw [hzs, Nat.mul_comm, Nat.mul_add_mod]; exact Nat.mod_eq_of_lt hj
                have hlt : i0 * E.size t + j < q.toNat * E.size t := by omega
                simp [hlt, e3, hjz]
              · have hd : j < ds.length := by rw [hlo.len, E.cells_len]; exact hj
                have hcj : cs[j]? = some (constS z.cells[j]) := by rw [hcs', List.getElem?_map]; simp [hjz]
                have hdj := toDs_at hds j _ _ hcj (List.getElem?_eq_getElem hd)
                have := toD_rep (w := w) (ro := ro) (ι := ι) (constS_rep z.cells[j]) hdj
                exact ((hlo.at_ j _ cc (List.getElem?_eq_getElem hd) hc).rep this).mono (fun _ _ h => h) hcell
            refine .inl ⟨_, _, setGh ι S.next gh, ro, ?_, ({
              os := rfl
              tape := rfl
              output := rfl
              size := by simp
              frame := fun k hk _ => heap_alloc_old w _ hk
              cell := hcell
              mono := fun _ _ h => h
              rolt := fun k o h => by have := c.rolt k o h; simp; omega
              fresh := fun _ _ h => .inl h
              iold := fun id h => if_neg h
              inew := fun gh' k h hk => by
                simp [setGh] at h
                subst h
                cases hk
                exact ⟨by simp, .inl (Nat.le_refl _)⟩
              nonew := fun h => by cases h
              upd := fun id o h => by cases h
              new := fun o h => by
                cases h
                refine ⟨gh, _, if_pos rfl, by simp [gh], rfl, rfl, hown, hrow, fun g hg o hr => ?_⟩
                cases hg
                have := c.rolt _ o hr
                omega
              val := .row gh t S.next _ _ (if_pos rfl) rfl rfl rfl (fun _ => ⟨_, rfl⟩) } : OpPost E w (w.alloc (.cells cur (E.tid t))) ι (setGh ι S.next gh) ro ro S.next _ gh.v)⟩
            simp only [execOp, ho, hvn, hvm, Sem.run_bind, hrun, Result.andThen_ok, Sem.run_pure]
            rfl
          · cases h
        · cases h
      · cases h
    · cases h
  · cases h
theorem done_copy (c : Ctx E S asm a w ι ro) {o : Oper} {T : TypeId} {d s : Operand} (ho : o.op = .call { callee := .builtin .copy, args := #[d, s], argTypes := #[T, T] }) {r : Res E}
    (h : evCopy S.objs T (getA S.tmps asm d) (getA S.tmps asm s) = some r) : OpDone E o a w ι ro S.next r := by
  have hs := c.get s
  have hd := c.get d
  generalize hvs : a.eval s = vs at hs
  generalize hvd : a.eval d = vd at hd
  generalize getA S.tmps asm s = Y at *
  generalize getA S.tmps asm d = X at *
  unfold evCopy at h
  split at h
  · rename_i e he
    have hu := elemT_inv he
    split at h
    · rename_i t0 n0 id t l2 hsl
      split at h
      · rename_i t' l1 hob
        split at h
        · rename_i l2' hc
          split at h
          · rename_i hb
            cases h
            have hb := Nat.eq_of_beq_eq_true hb
            subst hb
            obtain ⟨ee, hl⟩ := castL_eq hc
            subst ee
            obtain rfl : l2 = l2' := hl.symm
            have hd2 := sliceA_rep hs hsl
            cases hd with
            | row gh _ _ ad cap hi hge0 hgs0 hgv had =>
              obtain ⟨gh', xs, hi', hn, hge, hgs, hown, hrow, hnro⟩ := c.objs id _ hob
              rw [hi] at hi'
              cases hi'
              obtain ⟨ad2, cap2, news, rfl, hnl, had2, hnc2, hn1, hnd⟩ := hd2.row
              obtain ⟨i, z, hinfo, his, hib, hz, hzs⟩ := E.info_ok t
              have fin : ∀ {v' : Value} {w' : World}, (Builtin.copy_ #[T, T] o.type #[gh.v, .slice ad2 l2.length cap2]).run P w = .ok v' w' → (execOp a.eval o).run P w = .ok (.value v') w' := by
                intro v' w' hr
                simp only [execOp, ho, resolve, invoke, builtin, Sem.run_bind, Sem.run_pure, Result.andThen_ok, List.map_toArray, List.map_cons, List.map_nil, hvs, hvd, hr]
              by_cases h0 : Nat.min l2.length l1.length = 0
              · have hl' : l2.take l1.length ++ l1.drop l2.length = l1 := by
                  rcases Nat.eq_zero_or_pos l2.length with h | h
                  · obtain rfl := List.eq_nil_of_length_eq_zero h; simp
                  · have : l1.length = 0 := by simp only [Nat.min_def] at h0; split at h0 <;> omega
                    obtain rfl := List.eq_nil_of_length_eq_zero this; simp
                rw [hl']
                have hm0 : min l1.length l2.length = 0 := by rw [Nat.min_comm]; exact h0
                rw [hm0]
                refine .inl ⟨.int .i64 0, w, ι, ro, fin ?_, {
                  os := rfl
                  tape := rfl
                  output := rfl
                  size := Nat.le_refl _
                  frame := fun _ _ _ => rfl
                  cell := fun _ _ _ => rfl
                  mono := fun _ _ h => h
                  rolt := c.rolt
                  fresh := fun _ _ h => .inl h
                  iold := fun _ _ => rfl
                  inew := fun gh k h => by rw [c.fresh] at h; cases h
                  nonew := fun _ => rfl
                  upd := fun id o h => by cases h; exact ⟨gh, xs, hi, hn, hge, hgs, hown, hrow, hnro⟩
                  new := fun o h => by cases h
                  val := .d _ _ (.int _ _) }⟩
                rw [hgv, hn]
                have hl0 : ∀ (x : Addr), (loadCells x 0).run P w = .ok #[] w := fun x => by simpa using run_loadCells_list (P := P) w x [] (by simp)
                cases ad <;> cases ad2 <;> simp [Builtin.copy_, run_underlying hu, Builtin.lenOf, Builtin.firstCells, sizeOf, typeInfo, hinfo, h0, storeCells, hl0, goInt]
              · have hpos1 : 0 < l1.length := by simp only [Nat.min_def] at h0; split at h0 <;> omega
                have hpos2 : 0 < l2.length := by simp only [Nat.min_def] at h0; split at h0 <;> omega
                have hownR : w.ownsRow 0 gh.e gh.sz gh.v gh.n xs ∧ gh.blk = gh.v.ownBlock := by
                  rcases hown with h | h
                  · exact h
                  · omega
                obtain ⟨⟨hxl, hrowO⟩, hblk⟩ := hownR
                rcases hrowO with ⟨h0', _⟩ | ⟨g, cap', cur, hv', _, hh, hnc, hcm, hcs, htake⟩
                · rw [h0'] at hgv; injection hgv with _ e; omega
                · have hblk' : gh.blk = some g := by rw [hblk, hv']; rfl
                  generalize hk : Nat.min l2.length l1.length = k at h0
                  have hk1 : k ≤ l1.length := by rw [← hk]; exact Nat.min_le_right _ _
                  have hk2 : k ≤ l2.length := by rw [← hk]; exact Nat.min_le_left _ _
                  have hkm1 : k * E.size t ≤ l1.length * E.size t := Nat.mul_le_mul_right _ hk1
                  have hkm2 : k * E.size t ≤ l2.length * E.size t := Nat.mul_le_mul_right _ hk2
                  have hkm3 : gh.n * gh.sz ≤ cap' * gh.sz := Nat.mul_le_mul_right _ hnc
                  rw [hn, hgs] at hkm3
                  cases ad2 with
                  | none => have := had2 rfl; omega
                  | some A =>
                    let cs : List Value := news.take (k * E.size t)
                    have hcl : cs.length = k * E.size t := by simp only [cs, List.length_take]; omega
                    have hsrc : ∀ j v, cs[j]? = some v → w.cell? (A.add j) = some v := fun j v hj => by
                      have hlt : j < k * E.size t := by rw [← hcl]; exact (List.getElem?_eq_some_iff.1 hj).1
                      rw [List.getElem?_take_of_lt hlt] at hj
                      exact hnc2 A rfl j v hj
                    have hf := run_firstCells_some (P := P) w (E.size t) k A l2.length cap2 cs hcl hsrc
                    have hone : ∀ v ∈ cs, v.oneCell' = true := fun v hv => hn1 v (List.mem_of_mem_take hv)
                    have hst := run_storeCells_at P g 0 gh.e cs 0 cur w hh (by rw [hcl, hcs, hgs]; omega) hone
                    simp only [Nat.zero_add, List.take_zero, List.nil_append] at hst
                    have e4 : min l1.length l2.length = k := by rw [Nat.min_comm]; exact hk
                    rw [e4]
                    refine .inl ⟨.int .i64 k, _, ι, ro, fin (w' := w.setRow g (cs ++ cur.toList.drop cs.length).toArray) ?_, OpPost.rowset c hi hv' hblk' hh hnc hcm hcs (by rw [hn]; simp only [List.length_append, List.length_take, List.length_drop]; omega) hge hgs (hnro g hblk') _ (by simp only [List.length_append, List.length_drop, Array.length_toList, hcl, hcs, hgs]; omega) ?_ rfl⟩
                    · rw [hv', hn]
                      simp [Builtin.copy_, run_underlying hu, Builtin.lenOf, sizeOf, typeInfo, hinfo, his, hk, hf, hst, goInt]
                    · intro i' x j cc hx hc
                      have hj : j < E.size t := by rw [← E.cells_len t x]; exact (List.getElem?_eq_some_iff.1 hc).1
                      have hll : (l2.take l1.length).length = k := by rw [List.length_take, ← hk]; exact Nat.min_comm _ _
                      rw [hn, hgs]
                      rcases Nat.lt_or_ge i' k with hik | hik
                      · rw [List.getElem?_append_left (by omega), List.getElem?_take_of_lt (by omega)] at hx
                        obtain ⟨u, hu', hdr⟩ := hnd i' x j cc hx hc
                        have hp : i' * E.size t + j < k * E.size t := by
                          have := Nat.mul_le_mul_right (E.size t) (show i' + 1 ≤ k by omega)
                          rw [Nat.succ_mul] at this
                          omega
                        refine ⟨u, ?_, hdr⟩
                        rw [List.getElem?_take_of_lt (by omega), List.getElem?_append_left (by omega), List.getElem?_take_of_lt hp]
                        exact hu'
                      · rw [List.getElem?_append_right (by omega), hll, List.getElem?_drop] at hx
                        have hil : l2.length + (i' - k) < l1.length := (List.getElem?_eq_some_iff.1 hx).1
                        have hkl : k = l2.length := by rw [← hk]; exact Nat.min_eq_left (by omega)
                        have e5 : l2.length + (i' - k) = i' := by omega
                        rw [e5] at hx hil
                        obtain ⟨u, hu', hdr⟩ := hrow i' x j cc hx hc
                        have hp : i' * E.size t + j < l1.length * E.size t := by
                          have := Nat.mul_le_mul_right (E.size t) (show i' + 1 ≤ l1.length by omega)
                          rw [Nat.succ_mul] at this
                          omega
                        have hp2 : k * E.size t ≤ i' * E.size t := Nat.mul_le_mul_right _ hik
                        refine ⟨u, ?_, hdr⟩
                        rw [List.getElem?_take_of_lt hp, List.getElem?_append_right (by omega), List.getElem?_drop, hcl, show k * E.size t + (i' * E.size t + j - k * E.size t) = i' * E.size t + j from by omega]
                        rw [← htake, hn, hgs, List.getElem?_take_of_lt hp] at hu'
                        exact hu'
          · cases h
        · cases h
      · cases h
    · cases h
  · cases h
theorem done_min (c : Ctx E S asm a w ι ro) {o : Oper} {T T' : TypeId} {big : Bool} {x y : Operand} (ho : o.op = .call { callee := .builtin (bif big then .max else .min), args := #[x, y], argTypes := #[T, T'] }) {r : AV E}
    (h : evMin big T (getA S.tmps asm x) (getA S.tmps asm y) = some r) : OpDone E o a w ι ro S.next (.pure r) := by
  have hx := c.get x
  have hy := c.get y
  generalize hvx : a.eval x = vx at hx
  generalize hvy : a.eval y = vy at hy
  generalize getA S.tmps asm x = X at *
  generalize getA S.tmps asm y = Y at *
  unfold evMin at h
  split at h
  · rename_i k0 k p k' q hk0
    split at h
    · rename_i hk
      cases h
      have e1 := hx.int_inv
      have e2 := hy.int_inv
      subst e1; subst e2
      cases big with
      | true =>
        refine c.pure (val := .int k (if q > p then q else p)) (by simp [execOp, ho, hvx, hvy, resolve, invoke, builtin, run_max_int2]) ?_
        rw [show (if q > p then q else p) = (bif true then (bif decide (p < q) then q else p) else (bif decide (q < p) then q else p)) from by by_cases hq : p < q <;> simp [hq, GT.gt]]
        exact .d _ _ (.int _ _)
      | false =>
        refine c.pure (val := .int k (if q < p then q else p)) (by simp [execOp, ho, hvx, hvy, resolve, invoke, builtin, run_min_int2]) ?_
        rw [show (if q < p then q else p) = (bif false then (bif decide (p < q) then q else p) else (bif decide (q < p) then q else p)) from by by_cases hq : q < p <;> simp [hq]]
        exact .d _ _ (.int _ _)
    · cases h
  · cases h
theorem mapT_inv {T K V : TypeId} (h : mapT P T = some (K, V)) : P.underlying T = some (.map K V) := by
  unfold mapT at h
  split at h
  · rename_i k v hu; cases h; exact hu
  · cases h
theorem done_makeMap (c : Ctx E S asm a w ι ro) {o : Oper} {T : TypeId} (ho : o.op = .makeMap T none) {r : Res E} (h : evMakeMap S.next T = some r) : OpDone E o a w ι ro S.next r := by
  unfold evMakeMap at h
  split at h
  · rename_i K V hm
    cases h
    let gh : Gh := ⟨.map (some w.heap.size), 0, K, 0, some w.heap.size⟩
    refine .inl ⟨gh.v, w.alloc (.map #[] 0), setGh ι S.next gh, ro, ?_, {
      os := rfl
      tape := rfl
      output := rfl
      size := by simp
      frame := fun k hk _ => heap_alloc_old w _ hk
      cell := fun k o h => cell_alloc w _ (c.rolt k o h) o
      mono := fun _ _ h => h
      rolt := fun k o h => by have := c.rolt k o h; simp; omega
      fresh := fun k o h => .inl h
      iold := fun id h => if_neg h
      inew := fun gh' k h hk => by
        simp [setGh] at h
        subst h
        simp [gh] at hk
        subst hk
        exact ⟨by simp, .inl (Nat.le_refl _)⟩
      nonew := fun h => by cases h
      upd := fun id o h => by cases h
      new := fun o h => by
        cases h
        exact ⟨gh, w.heap.size, #[], if_pos rfl, rfl, rfl, heap_alloc_new w _, rfl, fun j e x h => by simp at h⟩
      val := .mp gh w.heap.size S.next (if_pos rfl) rfl }⟩
    simp only [execOp, ho, Option.map_none]
    have : (Instr.makeMap T none).run P w = .ok (.map (some w.heap.size)) (w.alloc (.map #[] 0)) := rfl
    simp [Sem.run_bind, this, Result.andThen, gh]
  · cases h
theorem keyOk_td {K : TypeId} {c d : DVal E.Den} {td : TypeDesc} (hu : P.underlying K = some td) (hc : keyOk P K c = true) (hd : keyOk P K d = true) : Instr.sameNow td (dV E c) (dV E d) = some (eqKey c d) := by
  have hs : ∀ a b : List UInt8, ((⟨a.toArray⟩ : ByteArray) == ⟨b.toArray⟩) = (a == b) := fun a b => by
    rw [Bool.eq_iff_iff, Go.MapKept.bytes_beq, beq_iff_eq]
    constructor
    · intro h; injection h with h; simpa using congrArg Array.toList h
    · rintro rfl; rfl
  cases c <;> first | cases hc | skip
  · rename_i k a
    simp only [keyOk, isIntT, hu] at hc
    cases td with
    | int q =>
      simp only [sameKind, decide_eq_true_eq] at hc
      subst hc
      cases d <;> first | cases hd | skip
      · rename_i k b
        simp only [keyOk, isIntT, hu, sameKind, decide_eq_true_eq] at hd
        subst hd
        simp [Instr.sameNow, dV, eqKey]
      · rename_i b
        simp [keyOk, isStrT, hu] at hd
    | _ => cases hc
  · rename_i a
    simp only [keyOk, isStrT, hu] at hc
    cases td with
    | string =>
      cases d <;> first | cases hd | skip
      · rename_i k b
        simp [keyOk, isIntT, hu] at hd
      · rename_i b
        simp [Instr.sameNow, dV, eqKey, hs]
    | _ => cases hc
theorem find_key {K : TypeId} {c : DVal E.Den} {td : TypeDesc} (hu : P.underlying K = some td) (hc : keyOk P K c = true) : ∀ (l : List (List (DVal E.Den) × List (AV E))) (es : List MapEntry) (i : Nat), es.length = l.length → keysOk K l = true → (∀ (j : Nat) e x, es[j]? = some e → l[j]? = some x → e.key = kV E x.1) →
    (lkpM c l i = none ∧ Instr.findNow td (dV E c) es i = some none) ∨ ∃ j e x, es[j]? = some e ∧ l[j]? = some x ∧ lkpM c l i = some (i + j, x.2) ∧ Instr.findNow td (dV E c) es i = some (some (i + j, e.val))
  | [], [], i, _, _, _ => .inl ⟨rfl, rfl⟩
  | [], _ :: _, _, h, _, _ => by cases h
  | _ :: _, [], _, h, _, _ => by cases h
  | (ks, vs) :: l, e :: es, i, hl, hk, he => by
    match ks, hk with
    | [d], hk =>
      simp only [keysOk, Bool.and_eq_true] at hk
      have h0 := he 0 e ([d], vs) rfl rfl
      have hkv : e.key = dV E d := h0
      have hs := keyOk_td hu hc hk.1
      simp only [lkpM, Instr.findNow, hkv, hs]
      cases hq : eqKey c d with
      | true => exact .inr ⟨0, e, ([d], vs), rfl, rfl, rfl, rfl⟩
      | false =>
        rcases find_key hu hc l es (i + 1) (by simpa using hl) hk.2 (fun j e x h1 h2 => he (j + 1) e x (by simpa using h1) (by simpa using h2)) with ⟨h1, h2⟩ | ⟨j, e', x, h1, h2, h3, h4⟩
        · exact .inl ⟨h1, h2⟩
        · exact .inr ⟨j + 1, e', x, by simpa using h1, by simpa using h2, by rw [cond_false, h3, Nat.add_assoc, Nat.add_comm 1 j], by rw [h4, Nat.add_assoc, Nat.add_comm 1 j]⟩
    | [], hk => cases hk
    | _ :: _ :: _, hk => cases hk
theorem isKey_of {K : TypeId} {c : DVal E.Den} {td : TypeDesc} (hu : P.underlying K = some td) (hc : keyOk P K c = true) : Go.MapKept.IsKey td (dV E c) := by
  cases c <;> first | cases hc | skip
  · simp only [keyOk, isIntT, hu] at hc
    cases td with
    | int q =>
      simp only [sameKind, decide_eq_true_eq] at hc
      subst hc
      simp [Go.MapKept.IsKey, dV]
    | _ => cases hc
  · simp only [keyOk, isStrT, hu] at hc
    cases td with
    | string => simp [Go.MapKept.IsKey, dV]
    | _ => cases hc
theorem take_val {T : TypeId} {v : Value} {cs : List (AV E)} {r : AV E} (h1 : v.cells.size = cs.length) (h2 : ∀ (i : Nat) u c, v.cells[i]? = some u → cs[i]? = some c → u.oneCell' = true ∧ Rep E w ro ι u c) (ha : isAggT P T = true → ∃ vs, v = .agg vs) (hs : isAggT P T = false → v.oneCell' = true)
    (hn : valOk P T cs.length = true) (ht : takeA T cs = some r) : Rep E w ro ι v r := by
  unfold takeA at ht
  unfold valOk at hn
  split at ht
  · rename_i n hz
    rw [hz] at hn
    have hn := Nat.eq_of_beq_eq_true hn
    split at ht
    · rename_i hagg
      obtain ⟨vs, rfl⟩ := ha hagg
      split at ht
      · cases ht
        refine packA_rep (.agg vs _ (by have : vs.size = cs.length := h1; rw [List.length_take]; omega) fun j u c hu hc => (h2 j u c hu (by
          rw [List.getElem?_take] at hc
          split at hc
          · exact hc
          · cases hc)).2)
      · cases ht
    · rename_i hagg
      have h1c := hs (by simpa using hagg)
      have hcells := Value.cells_one h1c
      exact (h2 0 v r (by rw [hcells]; rfl) ht).2
  · cases ht
theorem done_lookup (c : Ctx E S asm a w ι ro) {o : Oper} {T : TypeId} {x i : Operand} {ok : Bool} (ho : o.op = .lookup T x i ok) {r : AV E} (h : evLookup S.objs T (getA S.tmps asm x) (getA S.tmps asm i) ok = some r) : OpDone E o a w ι ro S.next (.pure r) := by
  have hx := c.get x
  have hi := c.get i
  generalize hvx : a.eval x = vx at hx
  generalize hvi : a.eval i = vi at hi
  generalize getA S.tmps asm x = X at *
  generalize getA S.tmps asm i = I at *
  unfold evLookup at h
  split at h
  · rename_i K V id cc hm hone
    have hI : I = .d cc := by
      cases I <;> first | (cases hone; rfl) | cases hone
    subst hI
    split at h
    · rename_i K' V' l hob
      split at h
      · rename_i hk
        simp only [Bool.and_eq_true] at hk
        obtain ⟨hk1, hk2, hk3⟩ := hk
        have hV := Nat.eq_of_beq_eq_true hk3
        subst hV
        have hT := mapT_inv hm
        obtain ⟨gh, g, es, h1, h2, h3, h4, h5, h6⟩ := c.objs id _ hob
        cases hx with
        | mp gh' g' _ hi' hgv' =>
        rw [h1] at hi'
        cases hi'
        rw [h2] at hgv'
        cases hgv'
        have hkey : vi = dV E cc := by
          cases hi with
          | d _ _ hd => cases cc <;> first | cases hk1 | (cases hd; rfl)
        subst hkey
        have hKu : ∃ td, P.underlying K = some td := by
          cases hq : P.underlying K with
          | some td => exact ⟨td, rfl⟩
          | none => cases cc <;> first | cases hk1 | (simp [keyOk, isIntT, isStrT, hq] at hk1)
        obtain ⟨td, hu⟩ := hKu
        have hf := find_key hu hk1 l es.toList 0 (by simpa using h5) hk2 (fun j e x he hx => (h6 j e x (by simpa using he) hx).1)
        have hrun : ∀ (v : Value) (b : Bool), (match (match Instr.findNow td (dV E cc) es.toList 0 with | some r => r | none => none) with | some (_, u) => Result.ok (u, true) w | none => (zeroValue V').run P w |>.andThen fun z w => .ok (z, false) w) = Result.ok (v, b) w → (∃ r, Instr.findNow td (dV E cc) es.toList 0 = some r) →
            (execOp a.eval o).run P w = .ok (.value (if ok then .tuple #[v, .bool b] else v)) w := by
          intro v b hv ⟨r, hr⟩
          rw [hr] at hv
          simp only [execOp, ho, hvx, hvi, Instr.lookup]
          simp only [Sem.run_bind, run_underlying hT, Result.andThen_ok, Go.MapKept.run_getObj_map h4, Sem.run_pure, Go.MapKept.run_checkKey hu (isKey_of hu hk1) _ 9999, Go.MapKept.run_findKey hu hr]
          cases r with
          | none =>
            simp only at hv
            cases hz : (zeroValue V').run P w with
            | ok z w' =>
              rw [hz] at hv
              simp only [Result.andThen] at hv
              cases hv
              simp [Sem.run_bind, hz, Result.andThen]
            | halt x w' => rw [hz] at hv; cases hv
          | some p =>
            obtain ⟨q1, q2⟩ := p
            simp only at hv
            cases hv
            simp [Sem.run_bind, Result.andThen]
        have wok : ∀ (v : Value) (b : Bool) (y : AV E), Rep E w ro ι v y → Rep E w ro ι (if ok then .tuple #[v, .bool b] else v) (withOk ok b y) := by
          intro v b y hr
          cases ok with
          | false => exact hr
          | true =>
            refine .tup _ _ rfl fun j u cc' h1 h2 => ?_
            match j with
            | 0 => simp at h1 h2; subst h1; subst h2; exact hr
            | 1 => simp at h1 h2; subst h1; subst h2; exact .d _ _ (.bool b)
            | j + 2 => simp at h1
        rcases hf with ⟨f1, f2⟩ | ⟨j, e, x, f1, f2, f3, f4⟩
        · rw [f1] at h
          simp only at h
          split at h
          · rename_i zs hz
            split at h
            · rename_i v hok hv
              cases h
              simp only [Bool.and_eq_true] at hok
              obtain ⟨o1, o2, o3⟩ := hok
              obtain ⟨ii, z, e1, e2, rfl, e4⟩ := run_zero (w := w) hz
              have hrep : Rep E w ro ι z v := by
                refine take_val (by simp) (fun i u cc' hu' hc' => ?_) (fun ha => ?_) (fun ha => ?_) o1 hv
                · have hc2 := hc'
                  rw [List.getElem?_map] at hc'
                  have e5 : z.cells.toList[i]? = some u := by simpa using hu'
                  rw [e5] at hc'
                  simp at hc'
                  subst hc'
                  exact ⟨constS_one rfl (allOk_at o3 i _ hc2), constS_rep u⟩
                · unfold zeroShape at o2
                  rw [e1] at o2
                  simp only [e2] at o2
                  cases z <;> first | exact ⟨_, rfl⟩ | (simp [ha] at o2)
                · unfold zeroShape at o2
                  rw [e1] at o2
                  simp only [e2] at o2
                  cases z <;> first | (simp [ha] at o2; done) | (simp at o2; exact o2.2)
              exact c.pure (hrun z false (by rw [f2]; simp [e4, Result.andThen]) ⟨_, f2⟩) (wok z false v hrep)
            · cases h
          · cases h
        · rw [f3] at h
          simp only at h
          split at h
          · rename_i v hok hv
            cases h
            obtain ⟨k1, ⟨k2, k5, k6⟩, k3, k4⟩ := h6 j e x (by simpa using f1) f2
            have hrep : Rep E w ro ι e.val v := take_val k3 k4 k5 k6 hok hv
            exact c.pure (hrun e.val true (by rw [f4]) ⟨_, f4⟩) (wok e.val true v hrep)
          · cases h
      · cases h
    · cases h
  · cases h
theorem done_lookupN (c : Ctx E S asm a w ι ro) {o : Oper} {T : TypeId} {x i : Operand} {ok : Bool} (ho : o.op = .lookup T x i ok) {r : AV E} (h : evLookupN T (getA S.tmps asm x) (getA S.tmps asm i) ok = some r) : OpDone E o a w ι ro S.next (.pure r) := by
  have hx := c.get x
  have hi := c.get i
  generalize hvx : a.eval x = vx at hx
  generalize hvi : a.eval i = vi at hi
  generalize getA S.tmps asm x = X at *
  generalize getA S.tmps asm i = I at *
  unfold evLookupN at h
  split at h
  · rename_i K V cc hm hone
    have hI : I = .d cc := by
      cases I <;> first | (cases hone; rfl) | cases hone
    subst hI
    split at h
    · rename_i zs hk1 hz
      have hT := mapT_inv hm
      have hv0 : vx = .map none := hx.raw_inv
      subst hv0
      have hkey : vi = dV E cc := by
        cases hi with
        | d _ _ hd => cases cc <;> first | cases hk1 | (cases hd; rfl)
      subst hkey
      have hKu : ∃ td, P.underlying K = some td := by
        cases hq : P.underlying K with
        | some td => exact ⟨td, rfl⟩
        | none => cases cc <;> first | cases hk1 | (simp [keyOk, isIntT, isStrT, hq] at hk1)
      obtain ⟨td, hu⟩ := hKu
      split at h
      · rename_i v hok hv
        cases h
        simp only [Bool.and_eq_true] at hok
        obtain ⟨o1, o2, o3⟩ := hok
        obtain ⟨ii, z, e1, e2, rfl, e4⟩ := run_zero (w := w) hz
        have hrep : Rep E w ro ι z v := by
          refine take_val (by simp) (fun i u cc' hu' hc' => ?_) (fun ha => ?_) (fun ha => ?_) o1 hv
          · have hc2 := hc'
            rw [List.getElem?_map] at hc'
            have e5 : z.cells.toList[i]? = some u := by simpa using hu'
            rw [e5] at hc'
            simp at hc'
            subst hc'
            exact ⟨constS_one rfl (allOk_at o3 i _ hc2), constS_rep u⟩
          · unfold zeroShape at o2
            rw [e1] at o2
            simp only [e2] at o2
            cases z <;> first | exact ⟨_, rfl⟩ | (simp [ha] at o2)
          · unfold zeroShape at o2
            rw [e1] at o2
            simp only [e2] at o2
            cases z <;> first | (simp [ha] at o2; done) | (simp at o2; exact o2.2)
        have hf : Instr.findNow td (dV E cc) [] 0 = some none := rfl
        refine c.pure (val := if ok then .tuple #[z, .bool false] else z) ?_ ?_
        · simp only [execOp, ho, hvx, hvi, Instr.lookup]
          simp only [Sem.run_bind, run_underlying hT, Result.andThen_ok, Sem.run_pure, Go.MapKept.run_checkKey hu (isKey_of hu hk1) _ 9999, Go.MapKept.run_findKey hu hf]
          simp [Sem.run_bind, e4, Result.andThen]
        · cases ok with
          | false => exact hrep
          | true =>
            refine .tup _ _ rfl fun j u cc' h1 h2 => ?_
            match j with
            | 0 => simp at h1 h2; subst h1; subst h2; exact hrep
            | 1 => simp at h1 h2; subst h1; subst h2; exact .d _ _ (.bool false)
            | j + 2 => simp at h1
      · cases h
    · cases h
  · cases h
theorem row_len {v : Value} {t : E.Ty} {m id : Nat} (h : Rep E w ro ι v (.row t m id)) : ∃ ad cap, v = .slice ad m cap ∧ (0 < m → ∃ g, ad = some ⟨g, 0, none⟩) := by
  cases h with
  | row gh _ _ ad cap h1 h2 h3 h4 h5 => exact ⟨ad, cap, h4, h5⟩
theorem eqN_slice {T e : TypeId} (hu : P.underlying T = some (.slice e)) (d : Nat) (ad : Option Addr) (n cp : Nat) : (Op.equalIn (d + 1) T (.slice ad n cp) (.slice none 0 0)).run P w = .ok ad.isNone w := by
  cases ad <;> simp [Op.equalIn, run_underlying hu]
theorem eqN_func {T : TypeId} {e1 : Array TypeId} {e2 : Array TypeId} {e3 : Bool} (hu : P.underlying T = some (.func e1 e2 e3)) (d : Nat) (v : Value) (b : Bool) (h : (v = .nilFunc ∧ b = true) ∨ (∃ f x y, v = .func f x y) ∧ b = false) : (Op.equalIn (d + 1) T v .nilFunc).run P w = .ok b w := by
  rcases h with ⟨rfl, rfl⟩ | ⟨⟨f, x, y, rfl⟩, rfl⟩ <;> simp [Op.equalIn, run_underlying hu]
theorem eqN_map {T e1 e2 : TypeId} (hu : P.underlying T = some (.map e1 e2)) (d : Nat) (r : Option Nat) : (Op.equalIn (d + 1) T (.map r) (.map none)).run P w = .ok r.isNone w := by
  cases r <;> simp [Op.equalIn, run_underlying hu]
theorem eqN_ptr {T e : TypeId} (hu : P.underlying T = some (.pointer e)) (d : Nat) (r : Option Addr) : (Op.equalIn (d + 1) T (.pointer r) (.pointer none)).run P w = .ok r.isNone w := by
  cases r <;> simp [Op.equalIn, run_underlying hu]
def nilPair : Value → Value → Bool
  | .slice _ _ _, .slice none _ _ => true
  | .func _ _ _, .nilFunc => true
  | .nilFunc, .nilFunc => true
  | .map _, .map none => true
  | .pointer _, .pointer none => true
  | _, _ => false
theorem nilOf_sound {T : TypeId} {X Y : AV E} {ok b : Bool} (h : nilOf T X Y = some (ok, b)) (hok : ok = true) {vx vy : Value} (hx : Rep E w ro ι vx X) (hy : Rep E w ro ι vy Y) : (Op.equal T vx vy).run P w = .ok b w ∧ nilPair vx vy = true := by
  show (Op.equalIn (9999 + 1) T vx vy).run P w = .ok b w ∧ nilPair vx vy = true
  unfold nilOf at h
  split at h
  · rename_i e hu
    have hy := hy.raw_inv
    subst hy
    have go : ∀ (ad : Option Addr) (n cp : Nat), vx = .slice ad n cp → b = ad.isNone → (Op.equalIn (9999 + 1) T vx (.slice none 0 0)).run P w = .ok b w ∧ nilPair vx (.slice none 0 0) = true := fun ad n cp e1 e2 => by
      subst e1; subst e2
      exact ⟨eqN_slice hu 9999 ad n cp, rfl⟩
    unfold isNilS at h
    split at h
    · cases h; exact go none 0 0 hx.raw_inv rfl
    · rename_i t l
      cases h
      cases hx with
      | d _ _ hd =>
        obtain ⟨ad, cap, rfl, hs⟩ := hd.slice_inv
        rcases hs with h0 | ⟨g, off, rfl, _⟩
        · subst h0; cases hok
        · exact go _ _ _ rfl rfl
    · rename_i t l id
      cases h
      cases hx with
      | grow gh _ _ _ h1 h2 h3 h4 hd =>
        obtain ⟨ad, cap, hv, hs⟩ := hd.slice_inv
        rcases hs with h0 | ⟨g, off, rfl, _⟩
        · subst h0; cases hok
        · exact go _ _ _ hv rfl
    · rename_i t n id
      cases h
      obtain ⟨ad, cap, hv, hg⟩ := row_len hx
      obtain ⟨g, rfl⟩ := hg (by simpa [Nat.blt_eq] using hok)
      exact go _ _ _ hv rfl
    · cases h
  · rename_i e1 e2 e3 hu
    have hy := hy.raw_inv
    subst hy
    unfold isNilF at h
    split at h
    · cases h
      have := hx.raw_inv
      subst this
      exact ⟨eqN_func hu 9999 _ _ (.inl ⟨rfl, rfl⟩), rfl⟩
    · cases h
      have := hx.raw_inv
      subst this
      exact ⟨eqN_func hu 9999 _ _ (.inr ⟨⟨_, _, _, rfl⟩, rfl⟩), rfl⟩
    · cases h
      cases hx with
      | fn => exact ⟨eqN_func hu 9999 _ _ (.inr ⟨⟨_, _, _, rfl⟩, rfl⟩), rfl⟩
    · cases h
  · rename_i e1 e2 hu
    have hy := hy.raw_inv
    subst hy
    unfold isNilM at h
    split at h
    · cases h
      have := hx.raw_inv
      subst this
      exact ⟨eqN_map hu 9999 none, rfl⟩
    · cases h
      cases hx with
      | mp gh g => exact ⟨eqN_map hu 9999 (some g), rfl⟩
    · cases h
  · rename_i e1 hu
    have hy := hy.raw_inv
    subst hy
    unfold isNilP at h
    split at h
    · cases h
      have := hx.raw_inv
      subst this
      exact ⟨eqN_ptr hu 9999 none, rfl⟩
    · cases h
      cases hx with
      | ptr => exact ⟨eqN_ptr hu 9999 (some _), rfl⟩
    · cases h
      cases hx with
      | pelt => exact ⟨eqN_ptr hu 9999 (some _), rfl⟩
    · cases h
      cases hx with
      | elt => exact ⟨eqN_ptr hu 9999 (some _), rfl⟩
    · cases h
  · cases h
theorem done_nil (c : Ctx E S asm a w ι ro) {o : Oper} {op : BinOp} {T T' : TypeId} {x y : Operand} (ho : o.op = .binOp op T x y T') {r : Bool × AV E} (h : evNil op T (getA S.tmps asm x) (getA S.tmps asm y) = some r) (hok : r.1 = true) : OpDone E o a w ι ro S.next (.test r.1 r.2) := by
  have hx := c.get x
  have hy := c.get y
  generalize hvx : a.eval x = vx at hx
  generalize hvy : a.eval y = vy at hy
  generalize getA S.tmps asm x = X at *
  generalize getA S.tmps asm y = Y at *
  unfold evNil at h
  split at h
  · rename_i ok b hm hb
    have hok' : ok = true := by
      split at h <;> first | (cases h; exact hok) | cases h
    obtain ⟨hr, hp⟩ := nilOf_sound hb hok' hx hy
    split at h
    · cases h
      refine .pure c.rolt c.fresh (val := .bool b) ?_ rfl rfl (.d _ _ (.bool _))
      unfold nilPair at hp
      split at hp <;> first | (cases hp; done) | simp [execOp, ho, hvx, hvy, eqGuard, run_program, hm, binOp, hr]
    · cases h
      refine .pure c.rolt c.fresh (val := .bool !b) ?_ rfl rfl (.d _ _ (.bool _))
      unfold nilPair at hp
      split at hp <;> first | (cases hp; done) | simp [execOp, ho, hvx, hvy, eqGuard, run_program, hm, binOp, hr]
    · cases h
  · cases h
theorem lkpM_set {K : TypeId} {c : DVal E.Den} : ∀ (l : List (List (DVal E.Den) × List (AV E))) (i j : Nat) (vs : List (AV E)), lkpM c l i = some (j, vs) → keysOk K l = true → ∃ d us, l[j - i]? = some ([d], us) ∧ eqKey c d = true ∧ i ≤ j
  | [], _, _, _, h, _ => by cases h
  | ([d], us) :: r, i, j, vs, h, hk => by
    simp only [lkpM] at h
    cases hq : eqKey c d with
    | true => rw [hq] at h; cases h; exact ⟨d, us, by simp, hq, Nat.le_refl _⟩
    | false =>
      rw [hq] at h
      simp only [keysOk, Bool.and_eq_true] at hk
      obtain ⟨d', us', h1, h2, h3⟩ := lkpM_set r (i + 1) j vs h hk.2
      exact ⟨d', us', by rw [show j - i = (j - (i + 1)) + 1 by omega]; simpa using h1, h2, by omega⟩
  | ([], _) :: _, _, _, _, _, hk => by cases hk
  | (_ :: _ :: _, _) :: _, _, _, _, _, hk => by cases hk
theorem eqKey_dV {K : TypeId} {c d : DVal E.Den} (hc : keyOk P K c = true) (hd : keyOk P K d = true) (h : eqKey c d = true) : dV E d = dV E c := by
  cases c <;> first | cases hc | skip
  · cases d <;> first | cases h | skip
    have h' : _ = _ := beq_iff_eq.1 h
    simp only [keyOk] at hc hd
    split at hc
    · rename_i q hq
      rw [hq] at hd
      simp only [sameKind, decide_eq_true_eq] at hc hd
      subst hc; subst hd
      rw [h']
    · cases hc
  · cases d <;> first | cases h | skip
    have h : _ = _ := beq_iff_eq.1 h
    simp [dV, h]
theorem sameBits_key {K : TypeId} {c : DVal E.Den} (hc : keyOk P K c = true) (n : Nat) : Instr.sameBits (n + 1) (dV E c) (dV E c) = true := by
  cases c <;> first | cases hc | skip
  · simp [dV, Instr.sameBits]
  · simp [dV, Instr.sameBits, Go.MapKept.bytes_beq]
theorem keysOk_at {K : TypeId} : ∀ {l : List (List (DVal E.Den) × List (AV E))} {j : Nat} {d : DVal E.Den} {us : List (AV E)}, keysOk K l = true → l[j]? = some ([d], us) → keyOk P K d = true
  | [], _, _, _, _, h => by simp at h
  | ([c], _) :: r, 0, d, us, hk, h => by
    simp only [keysOk, Bool.and_eq_true] at hk
    simp at h
    obtain ⟨rfl, _⟩ := h
    exact hk.1
  | ([c], _) :: r, j + 1, d, us, hk, h => by
    simp only [keysOk, Bool.and_eq_true] at hk
    exact keysOk_at hk.2 (by simpa using h)
  | ([], _) :: _, _, _, _, hk, _ => by cases hk
  | (_ :: _ :: _, _) :: _, _, _, _, hk, _ => by cases hk
theorem OpPost.mapset (c : Ctx E S asm a w ι ro) {gh : Gh} {g id n n' : Nat} {es es' : Array MapEntry} {ob : AObj E} (hi : ι id = some gh) (hblk : gh.blk = some g) (hh : w.heap[g]? = some (.map es n))
    (hob : ObjOk E { w with heap := w.heap.setIfInBounds g (.map es' n') } ro ι id ob) : OpPost E w { w with heap := w.heap.setIfInBounds g (.map es' n') } ι ι ro ro S.next ⟨true, .any, some (id, ob), none⟩ undef where
  os := rfl
  tape := rfl
  output := rfl
  size := by simp
  frame := fun k hk hne => (Go.MapKept.heap_set hh).2 k (fun e => hne id ob gh rfl hi (by rw [hblk, e]))
  cell := fun k o h => by
    unfold World.cell?
    by_cases e : k = g
    · subst e
      simp only [(Go.MapKept.heap_set hh).1, hh]
    · simp only [(Go.MapKept.heap_set (o' := .map es' n') hh).2 k e]
  mono := fun _ _ h => h
  rolt := fun k o h => by have := c.rolt k o h; simpa using this
  fresh := fun _ _ h => .inl h
  iold := fun _ _ => rfl
  inew := fun gh k h => by rw [c.fresh] at h; cases h
  nonew := fun _ => rfl
  upd := fun id' o h => by cases h; exact hob
  new := fun o h => by cases h
  val := .any _
theorem done_mapSet (c : Ctx E S asm a w ι ro) {o : Oper} {T : TypeId} {m i x : Operand} (ho : o.op = .mapUpdate T m i x) {u : Nat × AObj E} (h : evMapSet S.objs T (getA S.tmps asm m) (getA S.tmps asm i) (getA S.tmps asm x) = some u) : OpDone E o a w ι ro S.next ⟨true, .any, some u, none⟩ := by
  have hm := c.get m
  have hi := c.get i
  have hx := c.get x
  generalize hvm : a.eval m = vm at hm
  generalize hvi : a.eval i = vi at hi
  generalize hvx : a.eval x = vx at hx
  generalize getA S.tmps asm m = M at *
  generalize getA S.tmps asm i = I at *
  generalize getA S.tmps asm x = X at *
  unfold evMapSet at h
  split at h
  · rename_i K V id cc hmT hone
    have hI : I = .d cc := by
      cases I <;> first | (cases hone; rfl) | cases hone
    subst hI
    split at h
    · rename_i K' V' l hob
      split at h
      · rename_i vs hk hcs
        simp only [Bool.and_eq_true, beq_iff_eq] at hk
        obtain ⟨hk1, hk2, hk3, hk4⟩ := hk
        have hV := Nat.eq_of_beq_eq_true hk3
        subst hV
        cases h
        have hT := mapT_inv hmT
        obtain ⟨gh, g, es, h1, h2, h3, h4, h5, h6⟩ := c.objs id _ hob
        cases hm with
        | mp gh' g' _ hi' hgv' =>
        rw [h1] at hi'
        cases hi'
        rw [h2] at hgv'
        cases hgv'
        have hkey : vi = dV E cc := by
          cases hi with
          | d _ _ hd => cases cc <;> first | cases hk1 | (cases hd; rfl)
        subst hkey
        obtain ⟨td, hu⟩ : ∃ td, P.underlying K = some td := by
          cases hq : P.underlying K with
          | some td => exact ⟨td, rfl⟩
          | none => cases cc <;> first | cases hk1 | (simp [keyOk, isIntT, isStrT, hq] at hk1)
        obtain ⟨z1, z2⟩ := cellsA_rep hx hcs
        have hsh : (isAggT P V' = true → ∃ cs, vx = .agg cs) ∧ (isAggT P V' = false → vx.oneCell' = true) := by
          rw [← hk4]
          constructor
          · intro ha
            cases hx <;> first | exact ⟨_, rfl⟩ | cases ha
          · intro ha
            cases X <;> first | cases ha | skip
            all_goals first | exact cellOk_one rfl hx | (simp [cellsA, cellOk] at hcs)
        have hmono : ∀ (es' : Array MapEntry) (n' : Nat) (v : Value) (y : AV E), Rep E w ro ι v y → Rep E { w with heap := w.heap.setIfInBounds g (.map es' n') } ro ι v y := fun es' n' v y hr => hr.mono (fun _ _ h => h) (fun k o _ => by
          unfold World.cell?
          by_cases e : k = g
          · subst e
            simp only [(Go.MapKept.heap_set h4).1, h4]
          · simp only [(Go.MapKept.heap_set (o' := .map es' n') h4).2 k e]) (fun _ _ h => h)
        have hold : ∀ (es' : Array MapEntry) (n' : Nat) (j : Nat) e y, es[j]? = some e → l[j]? = some y → e.key = kV E y.1 ∧ (e.born = j ∧ (isAggT P V' = true → ∃ cs, e.val = .agg cs) ∧ (isAggT P V' = false → e.val.oneCell' = true)) ∧ e.val.cells.size = y.2.length ∧ ∀ (i : Nat) v cc, e.val.cells[i]? = some v → y.2[i]? = some cc → v.oneCell' = true ∧ Rep E { w with heap := w.heap.setIfInBounds g (.map es' n') } ro ι v cc := fun es' n' j e y he hy => by
          obtain ⟨k1, k2, k3, k4⟩ := h6 j e y he hy
          exact ⟨k1, k2, k3, fun i v cc hv hc => ⟨(k4 i v cc hv hc).1, hmono _ _ _ _ (k4 i v cc hv hc).2⟩⟩
        have hf := find_key hu hk1 l es.toList 0 (by simpa using h5) hk2 (fun j e y he hy => (h6 j e y (by simpa using he) hy).1)
        rcases hf with ⟨f1, f2⟩ | ⟨j, e, y, f1, f2, f3, f4⟩
        · have es' : setM cc vs l = l ++ [([cc], vs)] := by unfold setM; rw [f1]
          rw [es']
          refine .inr (.inl ⟨_, ι, ro, ?_, OpPost.mapset c (es' := es.push { key := dV E cc, val := vx, born := l.length }) (n' := l.length + 1) h1 h3 h4 ⟨gh, g, _, h1, h2, h3, by simpa using (Go.MapKept.heap_set h4).1, by simp [h5], fun j e y he hy => ?_⟩⟩)
          · simp only [execOp, ho, hvm, hvi, hvx, Instr.mapUpdate]
            simp only [Sem.run_bind, run_underlying hT, Result.andThen_ok, Go.MapKept.run_getObj_map h4, Go.MapKept.run_checkKey hu (isKey_of hu hk1) _ 9999, Go.MapKept.run_findKey hu f2, Go.MapKept.run_setObj_map _ h4]
            simp [Result.andThen]
          · rw [Array.getElem?_push] at he
            by_cases hj : j = es.size
            · rw [if_pos hj] at he
              cases he
              rw [hj, h5, List.getElem?_append_right (Nat.le_refl _), Nat.sub_self] at hy
              cases hy
              exact ⟨rfl, ⟨(hj.trans h5).symm, hsh⟩, z1, fun i v cc' hv hc => ⟨(z2 i v cc' hv hc).1, hmono _ _ _ _ (z2 i v cc' hv hc).2⟩⟩
            · rw [if_neg hj] at he
              have hlt := (Array.getElem?_eq_some_iff.1 he).1
              rw [List.getElem?_append_left (by omega)] at hy
              exact hold _ _ j e y he hy
        · rw [Nat.zero_add] at f3 f4
          have f1' : es[j]? = some e := by simpa using f1
          obtain ⟨d, us, q1, q2, _⟩ := lkpM_set (K := K) l 0 j y.2 f3 hk2
          rw [Nat.sub_zero] at q1
          have hy : y = ([d], us) := by rw [f2] at q1; injection q1
          have hdk := eqKey_dV hk1 (keysOk_at hk2 q1) q2
          have hek : e.key = dV E cc := by
            have := (h6 j e y f1' f2).1
            rw [this, hy]; exact hdk
          have es' : setM cc vs l = l.set j ([cc], vs) := by unfold setM; rw [f3]
          rw [es']
          refine .inr (.inl ⟨_, ι, ro, ?_, OpPost.mapset c (es' := es.modify j fun e => { e with key := dV E cc, val := vx }) (n' := l.length) h1 h3 h4 ⟨gh, g, _, h1, h2, h3, by simpa using (Go.MapKept.heap_set h4).1, by simp [h5], fun j' e' y' he hy' => ?_⟩⟩)
          · simp only [execOp, ho, hvm, hvi, hvx, Instr.mapUpdate]
            simp only [Sem.run_bind, run_underlying hT, Result.andThen_ok, Go.MapKept.run_getObj_map h4, Go.MapKept.run_checkKey hu (isKey_of hu hk1) _ 9999, Go.MapKept.run_findKey hu f4, f1', Option.map_some, Option.getD_some, Instr.keyThatStays, hek, sameBits_key hk1 9999, if_true, Sem.run_pure, Go.MapKept.run_setObj_map _ h4]
          · rw [Array.getElem?_modify] at he
            by_cases hj : j = j'
            · subst hj
              rw [if_pos rfl, f1'] at he
              cases he
              have hlt : j < l.length := (List.getElem?_eq_some_iff.1 f2).1
              rw [List.getElem?_set_self hlt] at hy'
              cases hy'
              exact ⟨rfl, ⟨(h6 j e y f1' f2).2.1.1, hsh⟩, z1, fun i v cc' hv hc => ⟨(z2 i v cc' hv hc).1, hmono _ _ _ _ (z2 i v cc' hv hc).2⟩⟩
            · rw [if_neg hj] at he
              rw [List.getElem?_set_ne hj] at hy'
              exact hold _ _ j' e' y' he hy'
      · cases h
    · cases h
  · cases h
theorem opt_map {α β : Type} {f : α → β} {x : Option α} {y : β} (h : x.map f = some y) : ∃ z, x = some z ∧ f z = y := by
  cases x with
  | none => cases h
  | some z => exact ⟨z, rfl, by simpa using h⟩
theorem arr1 {α : Type} {as : Array α} {f : α → AV E} {x : AV E} (h : as.toList.map f = [x]) : ∃ s, as = #[s] ∧ f s = x := by
  obtain ⟨l⟩ := as
  match l, h with
  | [s], h => exact ⟨s, rfl, by simpa using h⟩
theorem arr2 {α : Type} {as : Array α} {f : α → AV E} {x y : AV E} (h : as.toList.map f = [x, y]) : ∃ s u, as = #[s, u] ∧ f s = x ∧ f u = y := by
  obtain ⟨l⟩ := as
  match l, h with
  | [s, u], h => exact ⟨s, u, rfl, by simp at h; exact h.1, by simp at h; exact h.2⟩
theorem run_loadBytesI : ∀ (l : List Int) (a : Addr) (acc : ByteArray), (∀ j x, l[j]? = some x → w.cell? (a.add j) = some (.int .u8 x)) →
    (loadBytes a acc l.length).run P w = .ok ⟨acc.data ++ (l.map fun n => UInt8.ofNat n.toNat).toArray⟩ w
  | [], a, acc, _ => by simp [loadBytes]
  | x :: l, a, acc, h => by
    have h0 : w.cell? a = some (.int .u8 x) := by
      have := h 0 x rfl
      simpa [Addr.add] using this
    have ih := run_loadBytesI l (a.add 1) (acc.push (UInt8.ofNat x.toNat)) fun j y hy => by
      have h1 := h (j + 1) y (by simpa using hy)
      have e : (a.add 1).add j = a.add (j + 1) := by
        unfold Addr.add
        by_cases hj : j = 0
        · subst hj; simp
        · simp [hj]; omega
      rw [e]; exact h1
    simp only [List.length_cons, loadBytes, Sem.run_bind, run_load, h0, Result.andThen]
    rw [show (x.toNat.toUInt8) = UInt8.ofNat x.toNat from rfl, ih]
    congr 1
    apply ByteArray.ext
    simp [ByteArray.push]
theorem run_ustr {pt it ty e g cells : Nat} (hp : P.underlying pt = some (.pointer e)) (hc : P.cellsOf e = 1) (hsh : w.shape? g = some (e, cells)) (l : List Int) (h0 : l ≠ []) (hn : l.length ≤ cells) (h63 : l.length ≤ 9223372036854775807)
    (hcell : ∀ j x, l[j]? = some x → w.cell? ((⟨g, 0, none⟩ : Addr).add j) = some (.int .u8 x)) :
    (Builtin.unsafeString_ #[pt, it] ty #[.pointer (some ⟨g, 0, none⟩), .int .i64 l.length]).run P w = .ok (.string ⟨(l.map fun n => UInt8.ofNat n.toNat).toArray⟩) (w.freeze ⟨g, 0, none⟩ l.length) := by
  have hl : l.length ≠ 0 := fun e => h0 (List.eq_nil_of_length_eq_zero e)
  have hlb := run_loadBytesI (P := P) (w := w) l ⟨g, 0, none⟩ .empty hcell
  have hlies := Lib.liesAt_bytes (P := P) hc (cells / P.cellsOf e) l.length (by rw [hc]; simpa using hn)
  have h1 : ¬ (9223372036854775807 : Int) < (l.length : Int) := by omega
  have h2 : ¬ (l.length : Int) < 0 := by omega
  have h3 : ¬ (l.length : Int) = 0 := by omega
  have hmax : IntKind.i64.max = 9223372036854775807 := rfl
  have hb : ((do
      if (l.length : Int) < 0 then runtimePanic (.error "unsafe.String: len out of range")
      if (l.length : Int) > IntKind.i64.max then unsupported (.unsafePointer "String: a length above the largest int")
      if (l.length : Int) = 0 then pure (.string .empty)
      else if ← variablesAt ⟨g, 0, none⟩ (← elemOf pt) (l.length : Int).toNat then do
        let s ← loadBytes ⟨g, 0, none⟩ .empty (l.length : Int).toNat
        freeze ⟨g, 0, none⟩ (l.length : Int).toNat
        pure (.string s)
      else unsupported (.unsafePointer "String: not so many bytes at ptr") : Sem Value)).run P w = .ok (.string ⟨(l.map fun n => UInt8.ofNat n.toNat).toArray⟩) (w.freeze ⟨g, 0, none⟩ l.length) := by
    simp [h1, h2, hl, hmax, variablesAt, hsh, elemOf, run_underlying hp, hlies, hlb]
  exact hb
theorem freeze_size (w : World) (a : Addr) (n : Nat) : (w.freeze a n).heap.size = w.heap.size := by
  unfold World.freeze
  split <;> simp
theorem freeze_other (w : World) (a : Addr) (n k : Nat) (hk : k ≠ a.block) : (w.freeze a n).heap[k]? = w.heap[k]? := by
  unfold World.freeze
  split
  · rfl
  · show (w.heap.modify a.block _)[k]? = _
    rw [Array.getElem?_modify, if_neg (fun e => hk e.symm)]
theorem freeze_cell (w : World) (a : Addr) (n k o : Nat) : (w.freeze a n).cell? ⟨k, o, none⟩ = w.cell? ⟨k, o, none⟩ := by
  by_cases hk : k = a.block
  · subst hk
    unfold World.freeze
    split
    · rfl
    · show World.cell? { w with heap := w.heap.modify a.block _ } _ = _
      simp only [World.cell?, Array.getElem?_modify, if_true]
      cases w.heap[a.block]? with
      | none => rfl
      | some ob => cases ob <;> rfl
  · exact World.cell?_of_block (freeze_other w a n k hk)
theorem done_sdata (c : Ctx E S asm a w ι ro) {o : Oper} {s : Operand} {ts : Array TypeId} (ho : o.op = .call { callee := .builtin .unsafeSliceData, args := #[s], argTypes := ts }) {t : E.Ty} {l : List (E.Den t)} {id : Nat} (hs : getA S.tmps asm s = .grow t l id) (hok : (!l.isEmpty) = true) :
    OpDone E o a w ι ro S.next (.test (!l.isEmpty) (.sd t l id)) := by
  have hv := c.get s
  rw [hs] at hv
  generalize hvs : a.eval s = vs0 at hv
  cases hv with
  | grow gh _ _ _ h1 hn he hsz hd =>
    obtain ⟨ad, cap, hgv, hd'⟩ := hd.slice_inv
    rcases hd' with rfl | ⟨g, off, rfl, hcap, _⟩
    · cases hok
    · have hc0 : cap ≠ 0 := by
        cases l with
        | nil => cases hok
        | cons x r => simp at hcap; omega
      refine .pure c.rolt c.fresh (val := .pointer (some ⟨g, off, none⟩)) ?_ rfl rfl (.sd gh t l id ⟨g, off, none⟩ cap h1 hgv hn he hsz hd)
      rw [hgv] at hvs
      have hrun := Lib.run_unsafeSliceData_row (P := P) w ts o.type ⟨g, off, none⟩ l.length cap hc0
      simp only [execOp, ho, resolve, invoke, builtin, Sem.run_bind, Sem.run_pure, Result.andThen_ok, List.map_toArray, List.map_cons, List.map_nil, hvs, hrun]
theorem done_sdata0 (c : Ctx E S asm a w ι ro) {o : Oper} {s : Operand} {ts : Array TypeId} (ho : o.op = .call { callee := .builtin .unsafeSliceData, args := #[s], argTypes := ts }) (hs : getA S.tmps asm s = .d (.raw (.slice none 0 0))) :
    OpDone E o a w ι ro S.next (.pure (.d (.raw (.pointer none)))) := by
  have hv := c.get s
  rw [hs] at hv
  have hvs := hv.raw_inv
  have hrun := Lib.run_unsafeSliceData_nil (P := P) w ts o.type 0 0
  refine c.pure (val := .pointer none) ?_ (.d _ _ (.raw _ rfl))
  simp only [execOp, ho, resolve, invoke, builtin, Sem.run_bind, Sem.run_pure, Result.andThen_ok, List.map_toArray, List.map_cons, List.map_nil, hvs, hrun]
theorem done_ustr0 (c : Ctx E S asm a w ι ro) {o : Oper} {s u : Operand} {pt it : TypeId} (ho : o.op = .call { callee := .builtin .unsafeString, args := #[s, u], argTypes := #[pt, it] }) {n : Int} (hs : getA S.tmps asm s = .d (.raw (.pointer none))) (hu : getA S.tmps asm u = .d (.int .i64 n)) (hok : (n == 0) = true) :
    OpDone E o a w ι ro S.next (.test (n == 0) (.d (.str []))) := by
  have hv := c.get s
  rw [hs] at hv
  have hvs := hv.raw_inv
  have hw := c.get u
  rw [hu] at hw
  have hvu := hw.int_inv
  have hn := eq_of_beq hok
  subst hn
  have hrun := Lib.run_unsafeString_none (P := P) w pt it o.type none
  refine .pure c.rolt c.fresh (val := .string .empty) ?_ rfl rfl (.d _ _ (.str []))
  simp only [execOp, ho, resolve, invoke, builtin, Sem.run_bind, Sem.run_pure, Result.andThen_ok, List.map_toArray, List.map_cons, List.map_nil, hvs, hvu, hrun]
theorem done_ustr (c : Ctx E S asm a w ι ro) {o : Oper} {s u : Operand} {pt it : TypeId} (ho : o.op = .call { callee := .builtin .unsafeString, args := #[s, u], argTypes := #[pt, it] }) {t : E.Ty} {l : List (E.Den t)} {id : Nat} {n : Int} (hs : getA S.tmps asm s = .sd t l id) (hu : getA S.tmps asm u = .d (.int .i64 n))
    {r : Res E} (h : evUStr S.objs pt t l id n = some r) (hok : r.ok = true) : OpDone E o a w ι ro S.next r := by
  have hv := c.get s
  rw [hs] at hv
  generalize hvs : a.eval s = vs0 at hv
  have hw := c.get u
  rw [hu] at hw
  have hvu := hw.int_inv
  unfold evUStr at h
  split at h
  · rename_i f e hf hob hpt
    split at h
    · rename_i hte
      have hte := Nat.eq_of_beq_eq_true hte
      cases h
      simp only [Bool.and_eq_true] at hok
      obtain ⟨hn, hne⟩ := hok
      have hn := eq_of_beq hn
      subst hn
      have hpu : P.underlying pt = some (.pointer e) := by
        unfold ptrT at hpt
        split at hpt
        · rename_i hq; cases hpt; exact hq
        · cases hpt
      cases hv with
      | sd gh _ _ _ ad cap hi hgv hgn hge hgs hd =>
        obtain ⟨gh', xs, hi', hown, hnro⟩ := c.objs id _ hob rfl
        rw [hi] at hi'
        cases hi'
        have hl0 : l ≠ [] := fun e => by subst e; cases hne
        have hlpos : 0 < l.length := List.length_pos_iff.2 hl0
        rcases hown with ⟨⟨hxl, hrow⟩, hblk⟩ | ⟨h0, _⟩
        · rcases hrow with ⟨hq, _⟩ | ⟨g, cap', cur, hq, _, hh, hnc, hcm, hcs, _⟩
          · rw [hgv] at hq; cases hq
          · rw [hgv, hgn] at hq
            injection hq with q1 _ q3
            injection q1 with q1
            subst q1; subst q3
            have hbg : gh.blk = some g := by rw [hblk, hgv]; rfl
            have hcells : ∀ (i : Nat) x, l[i]? = some x → w.cell? ⟨g, i, none⟩ = some (.int .u8 (f x)) := fun i x hx => by
              have hc := E.byte_ok t f hf x
              have h1 : E.size t = 1 := by rw [← E.cells_len t x, hc]; rfl
              have hc0 : (E.cells t x)[0]? = some (.int .u8 (f x)) := by rw [hc]; rfl
              obtain ⟨ad2, cap2, hq2, hd2⟩ := hd.slice_inv
              rw [hgv] at hq2
              injection hq2 with p1 _ p3
              subst p1
              rcases hd2 with rfl | ⟨g2, off, hp, hle, fv, f1, f2⟩
              · simp at hx
              · injection hp with hp
                injection hp with p5 p6 _
                subst p5; subst p6
                have g1 := f1 i x 0 _ hx hc0
                have g2 := f2 i x 0 _ hx hc0
                have e1 : fv i 0 = .int .u8 (f x) := by generalize fv i 0 = u at g2; cases g2; rfl
                rw [h1, Nat.mul_one, Nat.add_zero, e1, Nat.zero_add] at g1
                exact g1.2
            obtain ⟨x0, r0, hx0⟩ : ∃ x0 r0, l = x0 :: r0 := by
              cases l with
              | nil => exact absurd rfl hl0
              | cons x r => exact ⟨x, r, rfl⟩
            have hsz1 : E.size t = 1 := by rw [← E.cells_len t x0, E.byte_ok t f hf x0]; rfl
            obtain ⟨i0, z, hinfo, his, _, _, _⟩ := E.info_ok t
            have hc1 : P.cellsOf e = 1 := by rw [← hte]; simp [Program.cellsOf, hinfo, his, hsz1]
            have hcm' : cap ≤ 9223372036854775807 := Nat.le_trans hcm (by decide)
            have hrun := run_ustr (P := P) (w := w) (it := it) (ty := o.type) hpu hc1 (g := g) (cells := cur.size) (by simp [World.shape?, hh, hge, hte]) (l.map f) (by simpa using hl0) (by rw [List.length_map, hcs, hgs, hsz1]; omega) (by rw [List.length_map]; omega) (fun j x hx => by
              rw [List.getElem?_map] at hx
              cases hj : l[j]? with
              | none => rw [hj] at hx; cases hx
              | some y =>
                rw [hj] at hx
                cases hx
                rw [add_none, Nat.zero_add]
                exact hcells j y hj)
            rw [List.length_map, List.map_map] at hrun
            refine .inl ⟨.string ⟨(l.map fun y => UInt8.ofNat (f y).toNat).toArray⟩, w.freeze ⟨g, 0, none⟩ l.length, ι, ro, ?_, {
              os := by unfold World.freeze; split <;> rfl
              tape := by unfold World.freeze; split <;> rfl
              output := by unfold World.freeze; split <;> rfl
              size := Nat.le_of_eq (freeze_size _ _ _).symm
              frame := fun k _ hk => freeze_other w _ _ k (fun e => by have e : k = g := e; subst e; exact hk id _ gh rfl hi hbg)
              cell := fun k o _ => freeze_cell w _ _ k o
              mono := fun _ _ h => h
              rolt := fun k o h => by rw [freeze_size]; exact c.rolt k o h
              fresh := fun k o h => .inl h
              iold := fun _ _ => rfl
              inew := fun gh' k h _ => by rw [c.fresh] at h; cases h
              nonew := fun _ => rfl
              upd := fun id o h => by cases h; trivial
              new := fun o h => by cases h
              val := .d _ _ (.str _) }⟩
            simp only [execOp, ho, resolve, invoke, builtin, Sem.run_bind, Sem.run_pure, Result.andThen_ok, List.map_toArray, List.map_cons, List.map_nil, hvs, hvu, hrun]
            rfl
        · omega
    · cases h
  · cases h
theorem op_done (c : Ctx E S asm a w ι ro) {O : Oracle E} (hO : OracleOk E O) {o : Oper} {r : Res E} (h : evOp O S asm o.op = some r) (hok : r.ok = true) : OpDone E o a w ι ro S.next r := by
  cases hop : o.op with
  | move x => rw [hop] at h; cases h; exact done_move c (.inl hop)
  | assign x => rw [hop] at h; cases h; exact done_move c (.inr hop)
  | pick x y z => rw [hop] at h; obtain ⟨q, hq, rfl⟩ := opt_map h; exact done_pick c hop hq
  | alloc T =>
    rw [hop] at h
    simp only [evOp] at h
    split at h
    · rename_i cs hcs
      split at h
      · rename_i hk; cases h; exact done_alloc c hop hcs hk O
      · cases h
    · cases h
  | box T x =>
    rw [hop] at h
    simp only [evOp] at h
    split at h
    · rename_i cs hcs; cases h; exact done_box c hop hcs
    · cases h
  | build T ps => rw [hop] at h; obtain ⟨q, hq, rfl⟩ := opt_map h; exact done_build c hop hq
  | buildSlice T n ps =>
    rw [hop] at h
    simp only [evOp] at h
    split at h
    · rename_i q hq
      cases h
      exact done_buildEmpty c hop hq
    · split at h
      · rename_i q hq
        cases h
        exact done_buildSlice c hop hq
      · exact done_buildBox c hop h
  | makeFunc f x y =>
    rw [hop] at h
    simp only [evOp] at h
    split at h
    · cases h; exact done_makeFunc c hop
    · cases h
  | load T x =>
    rw [hop] at h
    simp only [evOp] at h
    split at h
    · rename_i q hq; cases h; exact done_load c hop hq
    · obtain ⟨q, hq, rfl⟩ := opt_map h
      exact done_loadA c hop hq hok
  | store T x y =>
    rw [hop] at h
    simp only [evOp] at h
    split at h
    · rename_i u hu; cases h; exact done_store c hop hu
    · split at h
      · rename_i ok u hu; cases h; exact done_storeA c hop hu hok
      · cases h
  | nilCheck x =>
    rw [hop] at h
    simp only [evOp] at h
    have hx := c.get x
    generalize hvx : a.eval x = vx at hx
    split at h
    · rename_i id off hg
      cases h
      rw [hg] at hx
      cases hx with
      | ptr gh g _ _ hi hgv => exact c.pure (val := .pointer (some ⟨g, off, none⟩)) (by simp [execOp, hop, hvx]) (.ptr gh g id off hi hgv)
    · rename_i cs hg
      cases h
      rw [hg] at hx
      cases hx with
      | pelt g off f _ h1 h2 => exact c.pure (val := .pointer (some ⟨g, off, none⟩)) (by simp [execOp, hop, hvx]) (.pelt g off f _ h1 h2)
    · rename_i id i off hg
      cases h
      rw [hg] at hx
      cases hx with
      | elt gh g _ _ _ cap hi hgv hlt => exact c.pure (val := .pointer (some ⟨g, i * gh.sz + off, none⟩)) (by simp [execOp, hop, hvx]) (.elt gh g id i off cap hi hgv hlt)
    · rename_i f p q hg
      cases h
      rw [hg] at hx
      cases hx with
      | fn _ vs us _ _ h1 h2 h3 h4 => exact c.pure (val := .func (.func f) vs us) (by simp [execOp, hop, hvx]) (.fn f vs us p q h1 h2 h3 h4)
    · cases h
  | makeSlice T n m => rw [hop] at h; exact done_make c hop h hok
  | makeMap T n =>
    rw [hop] at h
    cases n with
    | none => exact done_makeMap c hop h
    | some _ => cases h
  | mapUpdate T m i x =>
    rw [hop] at h
    simp only [evOp] at h
    split at h
    · rename_i u hu; cases h; exact done_mapSet c hop hu
    · cases h
  | lookup T x i ok =>
    rw [hop] at h
    simp only [evOp] at h
    split at h
    · rename_i q hq
      cases h
      exact done_lookup c hop hq
    · obtain ⟨q, hq, rfl⟩ := opt_map h; exact done_lookupN c hop hq
  | binOp op T x y T' =>
    rw [hop] at h
    simp only [evOp] at h
    split at h
    · rename_i q hq
      cases h
      exact done_bin c hop hq hok
    · split at h
      · rename_i q hq
        cases h
        exact done_binEq c hop hq hok
      · obtain ⟨q, hq, rfl⟩ := opt_map h
        exact done_nil c hop hq hok
  | unOp op T x => rw [hop] at h; obtain ⟨q, hq, rfl⟩ := opt_map h; exact done_un c hop hq hok
  | convert s d x => rw [hop] at h; obtain ⟨q, hq, rfl⟩ := opt_map h; exact done_conv c hop hq hok
  | fieldAddr s x f => rw [hop] at h; obtain ⟨q, hq, rfl⟩ := opt_map h; exact done_field c hop hq
  | field s x f => rw [hop] at h; obtain ⟨q, hq, rfl⟩ := opt_map h; exact done_fieldV c hop hq
  | indexAddr T x i =>
    rw [hop] at h
    simp only [evOp] at h
    split at h
    · rename_i q hq
      cases h
      exact done_indexAddr c hop hq hok
    · split at h
      · rename_i q hq
        cases h
        exact done_indexArr c hop hq hok
      · obtain ⟨q, hq, rfl⟩ := opt_map h
        exact done_indexBsl c hop hq hok
  | index T x i =>
    rw [hop] at h
    simp only [evOp] at h
    split at h
    · rename_i q hq
      cases h
      exact done_index c hop hq hok
    · obtain ⟨q, hq, rfl⟩ := opt_map h
      exact done_indexV c hop hq hok
  | slice T x l hh m =>
    rw [hop] at h
    simp only [evOp] at h
    split at h
    · rename_i q hq
      cases h
      exact done_slice c hop hq hok
    · split at h
      · rename_i q hq
        cases h
        exact done_sliceA c hop hq hok
      · obtain ⟨q, hq, rfl⟩ := opt_map h
        exact done_sliceB c hop hq hok
  | extract x i => rw [hop] at h; obtain ⟨q, hq, rfl⟩ := opt_map h; exact done_extract c hop hq
  | call cl =>
    rw [hop] at h
    obtain ⟨callee, as, ts⟩ := cl
    simp only [evOp] at h
    split at h
    · rename_i hcallee
      split at h
      · rename_i x T hx hT
        obtain ⟨q, hq, rfl⟩ := opt_map h
        obtain ⟨s, rfl, rfl⟩ := arr1 hx
        exact done_len c hop hT hq
      · cases h
    · rename_i hcallee
      split at h
      · rename_i s x T T' hsx hTT
        split at h
        · rename_i hb
          have hb := Nat.eq_of_beq_eq_true hb
          subst hb
          obtain ⟨s', x', rfl, rfl, rfl⟩ := arr2 hsx
          obtain rfl : ts = #[T, T] := by obtain ⟨l⟩ := ts; simp at hTT; simp [hTT]
          exact done_append c hop h hok
        · obtain ⟨s', x', rfl, rfl, rfl⟩ := arr2 hsx
          obtain rfl : ts = #[T, T'] := by obtain ⟨l⟩ := ts; simp at hTT; simp [hTT]
          exact done_appendS c hop h hok
      · cases h
    · rename_i hcallee
      split at h
      · rename_i t l id hx
        cases h
        obtain ⟨s, rfl, hs⟩ := arr1 hx
        exact done_sdata c hop hs hok
      · rename_i hx
        cases h
        obtain ⟨s, rfl, hs⟩ := arr1 hx
        exact done_sdata0 c hop hs
      · cases h
    · rename_i hcallee
      split at h
      · rename_i t l id n pt it hx hT
        obtain ⟨s, u, rfl, hs, hu⟩ := arr2 hx
        obtain rfl : ts = #[pt, it] := by obtain ⟨l⟩ := ts; simp at hT; simp [hT]
        exact done_ustr c hop hs hu h hok
      · rename_i n pt it hx hT
        cases h
        obtain ⟨s, u, rfl, hs, hu⟩ := arr2 hx
        obtain rfl : ts = #[pt, it] := by obtain ⟨l⟩ := ts; simp at hT; simp [hT]
        exact done_ustr0 c hop hs hu hok
      · cases h
    · rename_i hcallee
      split at h
      · rename_i m n hx
        cases h
        obtain ⟨s, rfl, hs⟩ := arr1 hx
        have hv := c.get s
        rw [hs] at hv
        obtain ⟨x1, x2, e1, h1, h2⟩ := hv.cpx_inv
        exact c.pure (val := .float .f64 x1) (by simp only [execOp, hop, resolve, invoke, builtin, Sem.run_bind, Sem.run_pure, Result.andThen_ok, List.map_toArray, List.map_cons, List.map_nil, e1]; rfl) (.d _ _ (.flt _ _ h1))
      · cases h
    · rename_i hcallee
      split at h
      · rename_i m n hx
        cases h
        obtain ⟨s, rfl, hs⟩ := arr1 hx
        have hv := c.get s
        rw [hs] at hv
        obtain ⟨x1, x2, e1, h1, h2⟩ := hv.cpx_inv
        exact c.pure (val := .float .f64 x2) (by simp only [execOp, hop, resolve, invoke, builtin, Sem.run_bind, Sem.run_pure, Result.andThen_ok, List.map_toArray, List.map_cons, List.map_nil, e1]; rfl) (.d _ _ (.flt _ _ h2))
      · cases h
    · rename_i hcallee
      split at h
      · rename_i m n hx
        cases h
        obtain ⟨s, u, rfl, hs, hu⟩ := arr2 hx
        have hv := c.get s
        rw [hs] at hv
        have hv2 := c.get u
        rw [hu] at hv2
        obtain ⟨x1, e1, h1⟩ := hv.flt_inv
        obtain ⟨x2, e2, h2⟩ := hv2.flt_inv
        exact c.pure (val := .complex .f64 x1 x2) (by simp only [execOp, hop, resolve, invoke, builtin, Sem.run_bind, Sem.run_pure, Result.andThen_ok, List.map_toArray, List.map_cons, List.map_nil, e1, e2]; rfl) (.d _ _ (.cpx _ _ _ _ h1 h2))
      · cases h
    · rename_i hcallee
      split at h
      · rename_i s x T T' hsx hTT
        split at h
        · rename_i hb
          have hb := Nat.eq_of_beq_eq_true hb
          subst hb
          obtain ⟨s', x', rfl, rfl, rfl⟩ := arr2 hsx
          obtain rfl : ts = #[T, T] := by obtain ⟨l⟩ := ts; simp at hTT; simp [hTT]
          exact done_copy c hop h
        · cases h
      · cases h
    · rename_i hcallee
      split at h
      · rename_i s x T T' hsx hTT
        obtain ⟨q, hq, rfl⟩ := opt_map h
        obtain ⟨s', x', rfl, rfl, rfl⟩ := arr2 hsx
        obtain rfl : ts = #[T, T'] := by obtain ⟨l⟩ := ts; simp at hTT; simp [hTT]
        exact done_min (big := false) c hop hq
      · cases h
    · rename_i hcallee
      split at h
      · rename_i s x T T' hsx hTT
        obtain ⟨q, hq, rfl⟩ := opt_map h
        obtain ⟨s', x', rfl, rfl, rfl⟩ := arr2 hsx
        obtain rfl : ts = #[T, T'] := by obtain ⟨l⟩ := ts; simp at hTT; simp [hTT]
        exact done_min (big := true) c hop hq
      · cases h
    · rename_i cal
      split at h
      · rename_i f hf
        have hfo : a.eval cal = .func (.func f) #[] #[] := by
          unfold calleeA at hf
          split at hf
          · cases hf; rfl
          · unfold funcOf at hf
            split at hf
            · rename_i heq
              cases hf
              have hx := c.get cal
              rw [heq] at hx
              exact hx.raw_inv
            · cases hf
        split at h
        · rename_i q hq
          cases h
          exact done_callA c hO (by simp [argsA]) (args_at c as) (enter_of hop hfo) hq hok
        split at h
        · rename_i q hq
          cases h
          exact done_callX c hO hop hfo hq hok
        split at h
        · rename_i q hq
          cases h
          exact done_callC c hO hop hfo hq hok
        split at h
        · rename_i q hq
          cases h
          exact done_callG c hO hop hfo hq hok
        split at h
        · rename_i q hq
          cases h
          exact done_callM c hO hop hfo hq hok
        split at h
        · rename_i q hq
          cases h
          exact done_callB c hO hop hfo hq hok
        · split at h
          · rename_i q hq
            cases h
            exact done_callR c hO hop hfo hq hok
          · split at h
            · rename_i q hq
              cases h
              exact done_callP c hO hop hfo hq hok
            · split at h
              · rename_i q hq
                cases h
                exact done_callK c hO hop hfo hq hok
              · exact done_call c hO hop hfo h hok
      · split at h
        · rename_i f p q hg
          have hx := c.get cal
          rw [hg] at hx
          generalize hv : a.eval cal = vx at hx
          cases hx with
          | fn _ vs us _ _ h1 h2 h3 h4 =>
            exact done_callA c hO (by simp [argsA, h1, h2]) (app_rep (by simpa using h1) (fun j v x hv hx => h3 j v x (by simpa using hv) hx) (app_rep (by simp [argsA]) (args_at c as) fun j v x hv hx => h4 j v x (by simpa using hv) hx)) (enter_fn hop hv) h hok
        · cases h
    · cases h
  | _ => rw [hop] at h; cases h
end
end
end Go.Proofs.YtiahkjjfhnfdiaaGreatDoor.Mir
namespace Go.Proofs.YtiahkjjfhnfdiaaGreatDoor.Mir
open Go Go.RowKit
noncomputable section
section
variable {P : Program} {E : Env P}
def guardOf (tm : List (Nat × AV E)) : Nat → Nat → Bool → Option (Bool × List (Nat × Bool))
  | 0, _, _ => none
  | f + 1, gs, want => match look tm gs with
    | some (.d (.bool b)) => some (bif want then b else !b, [(gs, want)])
    | some (.cond j w (.d (.bool b))) => match guardOf tm f j w with
      | some (b', asm) => some (b' && (bif want then b else !b), (gs, want) :: asm)
      | none => none
    | _ => none
def dstOf (ops : Array Oper) (j : Nat) : Option Nat := (ops[j]?).bind (·.dst)
def isCond : AV E → Bool
  | .cond _ _ _ => true
  | _ => false
def evG (O : Oracle E) (ops : Array Oper) (S : ASt E) (o : Oper) : Option (Res E) := match o.guard with
  | none => match evOp O S [] o.op with
    | some r => bif isCond r.v then none else some r
    | none => none
  | some (j, want) => match dstOf ops j with
    | none => none
    | some gs => match guardOf S.tmps 8 gs want with
      | none => none
      | some (b, asm) => match evOp O S asm o.op with
        | some ⟨ok, v, none, none⟩ => some ⟨ok || !b, .cond gs want v, none, none⟩
        | _ => none
def putO (objs : List (Nat × AObj E)) (nid : Nat) (r : Res E) : List (Nat × AObj E) :=
  (match r.new with | some o => [(nid, o)] | none => []) ++ ((match r.upd with | some u => [u] | none => []) ++ objs)
def putL (d : Option Nat) (v : AV E) (loc : List (Nat × AV E)) : List (Nat × AV E) := match d with
  | some d => (d, v) :: loc
  | none => loc
def unCond : List (Nat × AV E) → List (Nat × AV E)
  | [] => []
  | (t, x) :: r => bif isCond x then (t, .any) :: unCond r else (t, x) :: unCond r
def condFree (d : Nat) : List (Nat × AV E) → Bool
  | [] => true
  | (_, .cond j _ _) :: r => (!Nat.beq j d) && condFree d r
  | _ :: r => condFree d r
def dstOk (n : Nat) (d : Option Nat) (loc : List (Nat × AV E)) : Bool := match d with
  | none => true
  | some d => Nat.blt d n && condFree d loc
def inlOf (I : Inl E) (S : ASt E) (o : Oper) : Option (FuncId × List (AV E)) := match o.guard, o.op with
  | none, .call c => (match c.callee with
    | .value x => (match calleeA (getA S.tmps []) x with
      | some f => bif I.has f then some (f, argsA S.tmps [] c.args) else none
      | none => (match getA S.tmps [] x with
        | .fn f p q => bif I.has f then some (f, p ++ (argsA S.tmps [] c.args ++ q)) else none
        | _ => none))
    | _ => none)
  | _, _ => none
def evSeq {R : Type} (O : Oracle E) (ops : Array Oper) (n : Nat) (glob : List (Nat × AV E)) : List Oper → List (Nat × AV E) → List (Nat × AObj E) → Nat → (ASt E → Option R) → Option R
  | [], loc, objs, next, k => k ⟨n, unCond loc ++ glob, objs, next⟩
  | o :: rest, loc, objs, next, k => match inlOf O.inl ⟨n, loc ++ glob, objs, next⟩ o with
    | some (f, args) => O.inl.run f args objs next fun v objs' next' => match dstOk n o.dst ((0, v) :: loc) && !(isCond v) with
      | true => evSeq O ops n glob rest (putL o.dst v loc) objs' next' k
      | false => none
    | none => match evG O ops ⟨n, loc ++ glob, objs, next⟩ o with
      | some r => match dstOk n o.dst ((0, r.v) :: loc) with
        | true => bif r.ok then evSeq O ops n glob rest (putL o.dst r.v loc) (putO objs next r) (next + 1) k else none
        | false => none
      | none => none
def NoCond (tm : List (Nat × AV E)) : Prop := ∀ p ∈ tm, isCond p.2 = false
end
section
variable {P : Program} {E : Env P} {w w' : World} {ro ro' : Nat → Nat → Prop} {ι ι' : Nat → Option Gh} {S : ASt E} {asm : List (Nat × Bool)} {a : Act}
theorem look_app {α : Type} : ∀ (l m : List (Nat × α)) (i : Nat), look (l ++ m) i = (match look l i with | some x => some x | none => look m i)
  | [], m, i => rfl
  | (j, x) :: l, m, i => by
    simp only [List.cons_append, look_nil, look_cons]
    split
    · rfl
    · exact look_app l m i
theorem look_mem {α : Type} : ∀ (l : List (Nat × α)) (i : Nat) (x : α), look l i = some x → (i, x) ∈ l
  | [], i, x, h => by cases h
  | (j, y) :: l, i, x, h => by
    rw [look_cons] at h
    split at h
    · rename_i hj
      have := Nat.eq_of_beq_eq_true hj
      subst this
      cases h
      exact List.mem_cons_self
    · exact List.mem_cons_of_mem _ (look_mem l i x h)
theorem evG_plain {x : Option (Res E)} {r : Res E} (h : (match x with | some r => bif isCond r.v then none else some r | none => none) = some r) : x = some r ∧ isCond r.v = false := by
  cases x with
  | none => cases h
  | some q =>
    cases hq : isCond q.v with
    | true => rw [show (match some q with | some r => bif isCond r.v then none else some r | none => none) = (bif isCond q.v then none else some q) from rfl, hq] at h; cases h
    | false =>
      rw [show (match some q with | some r => bif isCond r.v then none else some r | none => none) = (bif isCond q.v then none else some q) from rfl, hq] at h
      cases h
      exact ⟨rfl, hq⟩
theorem guardOf_sound {tm : List (Nat × AV E)} (ht : TmOk E w ro ι a tm) : ∀ (f gs : Nat) (want : Bool) (b : Bool) (asm : List (Nat × Bool)), guardOf tm f gs want = some (b, asm) → a.tmps[gs]? = some (.bool want) → b = true ∧ AsmOk a asm
  | 0, _, _, _, _, h, _ => by cases h
  | f + 1, gs, want, b, asm, h, hw => by
    unfold guardOf at h
    split at h
    · rename_i b0 hl
      cases h
      obtain ⟨v, hv, hr⟩ := ht gs _ hl
      have e1 : v = .bool b0 := Rep.bool_inv hr
      rw [hw, e1] at hv
      cases hv
      refine ⟨by cases want <;> rfl, fun j b' hb => ?_⟩
      simp only [hasAsm, Bool.or_false, Bool.and_eq_true] at hb
      have e2 := Nat.eq_of_beq_eq_true hb.1
      have e3 : want = b' := by simpa using hb.2
      subst e2; subst e3
      exact hw
    · rename_i j w0 b0 hl
      split at h
      · rename_i b' asm' hg
        cases h
        obtain ⟨v, hv, hr1, hr2⟩ := ht gs _ hl
        rw [hw] at hv
        cases hv
        have hj : a.tmps[j]? = some (.bool w0) := by
          by_cases h : a.tmps[j]? = some (.bool w0)
          · exact h
          · exact absurd (hr2 h) (by simp [undef])
        have e1 := Rep.bool_inv (hr1 hj)
        cases e1
        obtain ⟨h1, h2⟩ := guardOf_sound ht f j w0 b' asm' hg hj
        refine ⟨by rw [h1]; cases want <;> rfl, asm_cons h2 hw⟩
      · cases h
    · cases h
def SlotOk (E : Env P) (w' : World) (ro' : Nat → Nat → Prop) (ι' : Nat → Option Gh) (a : Act) (val : Value) (x : AV E) : Prop :=
  ∀ tm : Array Value, (∀ gs want u, x = .cond gs want u → tm[gs]? = a.tmps[gs]?) → SRep E w' ro' ι' tm val x
theorem OpPost.anyV {nid : Nat} {r : Res E} {val : Value} (h : OpPost E w w' ι ι' ro ro' nid r val) : OpPost E w w' ι ι' ro ro' nid { r with v := .any } val where
  os := h.os
  tape := h.tape
  output := h.output
  size := h.size
  frame := h.frame
  cell := h.cell
  mono := h.mono
  rolt := h.rolt
  fresh := h.fresh
  iold := h.iold
  inew := h.inew
  nonew := h.nonew
  upd := h.upd
  new := h.new
  val := .any _
theorem evG_sound (hrolt : ∀ k o, ro k o → k < w.heap.size) (htm : TmOk E w ro ι a S.tmps) (hobjs : ∀ (id : Nat) o, look S.objs id = some o → ObjOk E w ro ι id o) (hfresh : ι S.next = none)
    {O : Oracle E} (hO : OracleOk E O) {ops : Array Oper} {o : Oper} {r : Res E} (h : evG O ops S o = some r) (hok : r.ok = true) {K : Act → World → Prop} {Q : Exit → Act → World → Prop}
    (hK : ∀ val w' ι' ro', OpPost E w w' ι ι' ro ro' S.next { r with v := .any } val → SlotOk E w' ro' ι' a val r.v → K (a.put o.dst val) w') :
    if Region.wanted o (yielded ops a.tmps) = true then o.wp P a w K Q else K (a.put o.dst undef) w := by
  unfold evG at h
  split at h
  · rename_i hg
    have h := (evG_plain h).1
    have hw : Region.wanted o (yielded ops a.tmps) = true := by simp [Region.wanted, hg]
    rw [if_pos hw]
    have c : Ctx E S [] a w ι ro := ⟨htm, fun j b hb => by simp [hasAsm] at hb, hrolt, hobjs, hfresh⟩
    refine (op_done c hO h hok).wp fun val w' ι' ro' hp => hK val w' ι' ro' hp.anyV fun tm htm => ?_
    have hv := hp.val
    generalize r.v = x at hv htm
    cases hv with
    | any _ => exact .any _
    | d _ c h => exact .d _ c h
    | st vs t x ha h => exact .st vs t x ha h
    | agg vs cs h1 h2 => exact .agg vs cs h1 h2
    | tup vs cs h1 h2 => exact .tup vs cs h1 h2
    | grow gh t l id h1 h2 h3 h4 h5 => exact .grow gh t l id h1 h2 h3 h4 h5
    | ptr gh g id off h1 h2 => exact .ptr gh g id off h1 h2
    | pelt g off f cs h1 h2 => exact .pelt g off f cs h1 h2
    | row gh t id ad cap h1 h2 h3 h4 h5 => exact .row gh t id ad cap h1 h2 h3 h4 h5
    | elt gh g id i off cap h1 h2 h3 => exact .elt gh g id i off cap h1 h2 h3
    | fn f vs us a b h1 h2 h3 h4 => exact .fn f vs us a b h1 h2 h3 h4
    | bsl gh g id n cap h1 h2 => exact .bsl gh g id n cap h1 h2
    | mp gh g id h1 h2 => exact .mp gh g id h1 h2
    | yl gh l id h1 h2 => exact .yl gh l id h1 h2
    | mk gh _ g T id h1 h2 h3 h4 => exact .mk gh _ g T id h1 h2 h3 h4
    | sd gh t l id ad cap h1 h2 h3 h4 h5 h6 => exact .sd gh t l id ad cap h1 h2 h3 h4 h5 h6
  · rename_i j want hg
    split at h
    · cases h
    · rename_i gs hgs
      split at h
      · cases h
      · rename_i b asm hguard
        split at h
        · rename_i ok v hop
          cases h
          by_cases hw : a.tmps[gs]? = some (.bool want)
          · have hwant : Region.wanted o (yielded ops a.tmps) = true := by
              unfold dstOf at hgs
              simp [Region.wanted, hg, yielded, hgs, hw]
            rw [if_pos hwant]
            obtain ⟨hb, hasm⟩ := guardOf_sound htm _ _ _ _ _ hguard hw
            subst hb
            have hok' : ok = true := by simpa using hok
            have c : Ctx E S asm a w ι ro := ⟨htm, hasm, hrolt, hobjs, hfresh⟩
            refine (op_done c hO hop hok').wp fun val w' ι' ro' hp => hK val w' ι' ro' ?_ fun tm htm' => ?_
            · have := hp.anyV
              exact ⟨this.os, this.tape, this.output, this.size, this.frame, this.cell, this.mono, this.rolt, this.fresh, this.iold, this.inew, this.nonew, this.upd, this.new, .any _⟩
            · have e := htm' gs want v rfl
              refine ⟨fun _ => hp.val, fun hne => ?_⟩
              rw [e] at hne
              exact absurd hw hne
          · have hwant : ¬ Region.wanted o (yielded ops a.tmps) = true := by
              unfold dstOf at hgs
              simp only [Region.wanted, hg, yielded, hgs, Option.bind_some]
              intro hc
              split at hc
              · rename_i b' hb'
                have e : b' = want := by simpa using hc
                subst e
                exact hw hb'
              · simp at hc
            rw [if_neg hwant]
            refine hK undef w ι ro (.pure rfl rfl hrolt hfresh (.any _)) fun tm htm' => ?_
            have e := htm' gs want v rfl
            refine ⟨fun hc => ?_, fun _ => rfl⟩
            rw [e] at hc
            exact absurd hc hw
        · cases h
theorem OwnT.frame {gh : Gh} {xs : List Value} (h : OwnT w gh xs) (hf : ∀ g, gh.blk = some g → w'.heap[g]? = w.heap[g]?) : OwnT w' gh xs := by
  rcases h with ⟨⟨h1, h2⟩, hb⟩ | h
  · refine .inl ⟨⟨h1, ?_⟩, hb⟩
    rcases h2 with hn | ⟨g, cap, cur, hv, hb', hg, rest⟩
    · exact .inl hn
    · have hblk : gh.blk = some g := by rw [hb, hv]; rfl
      exact .inr ⟨g, cap, cur, hv, hb', (hf g hblk).trans hg, rest⟩
  · exact .inr h
theorem ObjOk.step {objs : List (Nat × AObj E)} {nid : Nat} {r : Res E} {val : Value} (hp : OpPost E w w' ι ι' ro ro' nid r val) (hfresh : ι nid = none) (hinj : Inj E objs ι) (hupd : ∀ id o, r.upd = some (id, o) → ∃ o', look objs id = some o' ∧ o'.live = true)
    (hilt : ∀ id gh k, ι id = some gh → gh.blk = some k → k < w.heap.size) {id : Nat} {o : AObj E} (hl : look objs id = some o) (hid : id ≠ nid) (hne : ∀ o', r.upd ≠ some (id, o')) (h : ObjOk E w ro ι id o) : ObjOk E w' ro' ι' id o := by
  have hext : ∀ id gh, ι id = some gh → ι' id = some gh := by
    intro i gh hi
    rw [hp.iold i (fun e => by subst e; rw [hfresh] at hi; cases hi)]
    exact hi
  have mono : ∀ (v : Value) (x : AV E), Rep E w ro ι v x → Rep E w' ro' ι' v x := fun v x h => h.mono hp.mono hp.cell hext
  have hdiff : o.live = true → ∀ gh k, ι id = some gh → gh.blk = some k → (∀ id' o' gh', r.upd = some (id', o') → ι id' = some gh' → gh'.blk ≠ some k) := by
    intro hlive gh k hgh hk id' o' gh' hu hgh' hk'
    obtain ⟨o'', hl'', hlive''⟩ := hupd id' o' hu
    have := hinj id id' o o'' gh gh' k hl hl'' hlive hlive'' hgh hgh' hk hk'
    subst this
    exact hne o' hu
  cases o with
  | dead => trivial
  | box cs =>
    obtain ⟨gh, g, vs, e, hi, hgv, hblk, hh, hsz, hcell, hnro, hge⟩ := h
    have hglt := hilt id gh g hi hblk
    have hd := hdiff rfl gh g hi hblk
    refine ⟨gh, g, vs, e, hext _ _ hi, hgv, hblk, (hp.frame g hglt hd).trans hh, hsz, fun j v c hv hc => ⟨(hcell j v c hv hc).1, mono _ _ (hcell j v c hv hc).2⟩, fun o hr => ?_, hge⟩
    rcases hp.fresh g o hr with h | h | ⟨id', o', gh', hu, hgh', hk'⟩
    · exact hnro o h
    · omega
    · exact hd id' o' gh' hu hgh' hk'
  | tail live =>
    intro hlive
    obtain ⟨gh, xs, hi, hown, hnro⟩ := h hlive
    have hd := fun k hk => hdiff hlive gh k hi hk
    refine ⟨gh, xs, hext _ _ hi, ?_, fun g hg o ho hr => ?_⟩
    · exact hown.frame fun g hg => hp.frame g (hilt id gh g hi hg) (hd g hg)
    · rcases hp.fresh g o hr with h | h | ⟨id', o', gh', hu, hgh', hk'⟩
      · exact hnro g hg o ho h
      · have := hilt id gh g hi hg; omega
      · exact hd g hg id' o' gh' hu hgh' hk'
  | arr t l fz =>
    obtain ⟨hagg, gh, g, vs, e, hi, hgv, hblk, hh, hsz, hcell, hnro, hge⟩ := h
    have hglt := hilt id gh g hi hblk
    have hd := hdiff rfl gh g hi hblk
    refine ⟨hagg, gh, g, vs, e, hext _ _ hi, hgv, hblk, (hp.frame g hglt hd).trans hh, hsz, fun j v c hv hc => ⟨(hcell j v c hv hc).1, mono _ _ (hcell j v c hv hc).2⟩, ⟨fun hf o hr => ?_, fun hf o ho => hp.mono _ _ (hnro.2 hf o ho)⟩, hge⟩
    rcases hp.fresh g o hr with h | h | ⟨id', o', gh', hu, hgh', hk'⟩
    · exact hnro.1 hf o h
    · omega
    · exact hd id' o' gh' hu hgh' hk'
  | dfr =>
    obtain ⟨gh, g, hi, hblk, hh⟩ := h
    exact ⟨gh, g, hext _ _ hi, hblk, (hp.frame g (hilt id gh g hi hblk) (hdiff rfl gh g hi hblk)).trans hh⟩
  | lp st pend n tm ps assign body =>
    obtain ⟨gh, g, rec, hi, hblk, hh, hrec, htm⟩ := h
    exact ⟨gh, g, rec, hext _ _ hi, hblk, (hp.frame g (hilt id gh g hi hblk) (hdiff rfl gh g hi hblk)).trans hh, hrec, fun t x hl => by
      obtain ⟨v, q1, q2⟩ := htm t x hl
      exact ⟨v, q1, mono _ _ q2⟩⟩
  | mp K V l =>
    obtain ⟨gh, g, es, hi, hgv, hblk, hh, hsz, hent⟩ := h
    exact ⟨gh, g, es, hext _ _ hi, hgv, hblk, (hp.frame g (hilt id gh g hi hblk) (hdiff rfl gh g hi hblk)).trans hh, hsz, fun j e x he hx => by
      obtain ⟨k1, k2, k3, k4⟩ := hent j e x he hx
      exact ⟨k1, k2, k3, fun i v c hv hc => ⟨(k4 i v c hv hc).1, mono _ _ (k4 i v c hv hc).2⟩⟩⟩
  | row t l =>
    obtain ⟨gh, xs, hi, hn, hge, hgs, hown, hrow, hnro⟩ := h
    have hd := fun k hk => hdiff rfl gh k hi hk
    refine ⟨gh, xs, hext _ _ hi, hn, hge, hgs, hown.frame fun g hg => hp.frame g (hilt id gh g hi hg) (hd g hg), hrow.mono hp.mono hp.cell, fun g hg o hr => ?_⟩
    rcases hp.fresh g o hr with h | h | ⟨id', o', gh', hu, hgh', hk'⟩
    · exact hnro g hg o h
    · have := hilt id gh g hi hg; omega
    · exact hd g hg id' o' gh' hu hgh' hk'
theorem evAppend_upd {objs : List (Nat × AObj E)} {nid : Nat} {T : TypeId} {s x : AV E} {r : Res E} (h : evAppend objs nid T s x = some r) {id : Nat} {ob : AObj E} (hu : r.upd = some (id, ob)) : ∃ o', look objs id = some o' ∧ o'.live = true := by
  unfold evAppend at h
  split at h
  · split at h
    · split at h
      · split at h
        · cases h; cases hu
        · split at h
          · rename_i hc hob
            cases h
            cases hu
            exact ⟨_, hob, rfl⟩
          · cases h
        · split at h
          · rename_i t' l1 hob
            split at h
            · cases h
              cases hu
              exact ⟨_, hob, rfl⟩
            · cases h
          · cases h
        · cases h
      · cases h
    · cases h
  · cases h
theorem evOp_upd {O : Oracle E} {S : ASt E} {asm : List (Nat × Bool)} {o : Op} {r : Res E} (h : evOp O S asm o = some r) {id : Nat} {ob : AObj E} (hu : r.upd = some (id, ob)) : ∃ o', look S.objs id = some o' ∧ o'.live = true := by
  cases o with
  | store T x y =>
    simp only [evOp] at h
    split at h
    · rename_i u hu'
      cases h
      cases hu
      unfold evStore at hu'
      split at hu'
      · rename_i id' off hx
        split at hu'
        · rename_i cs hob
          split at hu'
          · split at hu'
            · cases hu'; exact ⟨_, hob, rfl⟩
            · cases hu'
          · cases hu'
        · cases hu'
      · split at hu'
        · rename_i t l hob
          split at hu'
          · split at hu'
            · split at hu'
              · split at hu'
                · cases hu'; exact ⟨_, hob, rfl⟩
                · cases hu'
              · cases hu'
            · cases hu'
          · cases hu'
        · cases hu'
      · cases hu'
    · split at h
      · rename_i ok u hu'
        cases h
        cases hu
        unfold evStoreA at hu'
        split at hu'
        · split at hu'
          · rename_i hob
            split at hu'
            · split at hu'
              · split at hu'
                · cases hu'; exact ⟨_, hob, rfl⟩
                · cases hu'
              · cases hu'
            · cases hu'
          · cases hu'
        · cases hu'
      · cases h
  | lookup T x i ok =>
    simp only [evOp] at h
    split at h
    · cases h; cases hu
    · obtain ⟨q, hq, rfl⟩ := opt_map h; cases hu
  | mapUpdate T m i x =>
    simp only [evOp] at h
    split at h
    · rename_i u hu'
      cases h
      cases hu
      unfold evMapSet at hu'
      split at hu'
      · split at hu'
        · rename_i K' V' l hob
          split at hu'
          · cases hu'; exact ⟨_, hob, rfl⟩
          · cases hu'
        · cases hu'
      · cases hu'
    · cases h
  | makeMap T n =>
    cases n with
    | none =>
      simp only [evOp] at h
      unfold evMakeMap at h
      split at h
      · cases h; cases hu
      · cases h
    | some _ => cases h
  | makeSlice T n c =>
    simp only [evOp] at h
    unfold evMake at h
    split at h
    · split at h
      · split at h
        · split at h
          · split at h
            · cases h; cases hu
            · cases h
          · cases h
        · cases h
      · cases h
    · cases h
  | call cl =>
    obtain ⟨callee, as, ts⟩ := cl
    simp only [evOp] at h
    split at h
    · split at h
      · obtain ⟨q, hq, rfl⟩ := opt_map h; cases hu
      · cases h
    · split at h
      · split at h
        · exact evAppend_upd h hu
        · unfold evAppendS at h
          split at h
          · split at h
            · split at h
              · split at h
                · exact evAppend_upd h hu
                · cases h
              · cases h
            · cases h
          · cases h
      · cases h
    · split at h
      · cases h; cases hu
      · cases h; cases hu
      · cases h
    · split at h
      · unfold evUStr at h
        split at h
        · rename_i f e hf hob hpt
          split at h
          · cases h
            cases hu
            exact ⟨_, hob, rfl⟩
          · cases h
        · cases h
      · cases h; cases hu
      · cases h
    · split at h
      · cases h; cases hu
      · cases h
    · split at h
      · cases h; cases hu
      · cases h
    · split at h
      · cases h; cases hu
      · cases h
    · split at h
      · split at h
        · unfold evCopy at h
          split at h
          · split at h
            · split at h
              · rename_i t' l1 hob
                split at h
                · split at h
                  · cases h
                    cases hu
                    exact ⟨_, hob, rfl⟩
                  · cases h
                · cases h
              · cases h
            · cases h
          · cases h
        · cases h
      · cases h
    · split at h
      · obtain ⟨q, hq, rfl⟩ := opt_map h; cases hu
      · cases h
    · split at h
      · obtain ⟨q, hq, rfl⟩ := opt_map h; cases hu
      · cases h
    · split at h
      · rename_i f hf
        split at h
        · rename_i q hq
          cases h
          rw [(tryA_pure hq).1] at hu; cases hu
        split at h
        · rename_i q hq
          cases h
          unfold evCallX at hq
          split at hq
          · cases hq
          · split at hq
            · split at hq
              · rename_i hob
                split at hq
                · split at hq
                  · split at hq
                    · cases hq
                      cases hu
                      exact ⟨_, hob, rfl⟩
                    · cases hq
                  · cases hq
                · cases hq
              · cases hq
            · cases hq
        split at h
        · rename_i q hq
          cases h
          unfold evCallC at hq
          split at hq
          · cases hq
          · split at hq
            · split at hq
              · rename_i hob
                split at hq
                · cases hq
                  cases hu
                  exact ⟨_, hob, rfl⟩
                · cases hq
              · cases hq
            · cases hq
        split at h
        · rename_i q hq
          cases h
          unfold evCallG at hq
          split at hq
          · cases hq; cases hu
          · cases hq
        split at h
        · rename_i q hq
          cases h
          unfold evCallM at hq
          split at hq
          · split at hq
            · rename_i t l hob
              split at hq
              · split at hq
                · cases hq
                  cases hu
                  exact ⟨_, hob, rfl⟩
                · cases hq
                  cases hu
                  exact ⟨_, hob, rfl⟩
                · cases hq
              · cases hq
            · cases hq
          · split at hq
            · split at hq
              · split at hq
                · split at hq
                  · cases hq; cases hu
                  · cases hq
                · cases hq
              · cases hq
            · cases hq
          · cases hq
        split at h
        · rename_i q hq
          cases h
          unfold evCallB at hq
          split at hq
          · split at hq
            · split at hq
              · split at hq
                · cases hq; cases hu
                · cases hq
              · cases hq
            · cases hq
          · cases hq
        · split at h
          · rename_i q hq
            cases h
            unfold evCallR at hq
            split at hq
            · rename_i id' t l hra
              split at hq
              · cases hq
              · split at hq
                · split at hq
                  · cases hq
                    cases hu
                    exact ⟨_, rowArg_look hra, rfl⟩
                  · cases hq
                · cases hq
            · cases hq
          split at h
          · rename_i q hq
            cases h
            unfold evCallP at hq
            split at hq
            · split at hq
              · split at hq
                · cases hq; cases hu
                · cases hq
              · cases hq
            · cases hq
          split at h
          · rename_i q hq
            cases h
            unfold evCallK at hq
            split at hq
            · split at hq
              · cases hq; cases hu
              · cases hq
            · cases hq
          · unfold evCall at h
            split at h
            · rename_i xs hxs
              cases hfr : O.isFresh f with
              | true =>
                rw [hfr] at h
                simp only [cond_true] at h
                split at h
                · cases h; cases hu
                · cases h
              | false =>
                rw [hfr] at h
                simp only [cond_false] at h
                split at h
                · cases h; cases hu
                · cases h
            · cases h
      · split at h
        · rw [(tryA_pure h).1] at hu; cases hu
        · cases h
    · cases h
  | alloc T =>
    simp only [evOp] at h
    split at h
    · split at h
      · cases h; cases hu
      · cases h
    · cases h
  | box T x =>
    simp only [evOp] at h
    split at h
    · cases h; cases hu
    · cases h
  | nilCheck x =>
    simp only [evOp] at h
    split at h
    · cases h; cases hu
    · cases h; cases hu
    · cases h; cases hu
    · cases h; cases hu
    · cases h
  | makeFunc f x y =>
    simp only [evOp] at h
    split at h
    · cases h; cases hu
    · cases h
  | move x => cases h; cases hu
  | assign x => cases h; cases hu
  | pick x y z => obtain ⟨q, hq, rfl⟩ := opt_map h; cases hu
  | build T ps => obtain ⟨q, hq, rfl⟩ := opt_map h; cases hu
  | buildSlice T n ps =>
    simp only [evOp] at h
    split at h
    · rename_i q hq
      cases h
      unfold evBuildEmpty at hq
      split at hq
      · split at hq
        · split at hq
          · cases hq; cases hu
          · cases hq
        · cases hq
      · cases hq
    · split at h
      · cases h; cases hu
      · unfold evBuildBox at h
        split at h
        · split at h
          · split at h
            · split at h
              · split at h
                · cases h; cases hu
                · cases h
              · cases h
            · cases h
          · cases h
        · cases h
  | load T x =>
    simp only [evOp] at h
    split at h
    · cases h; cases hu
    · obtain ⟨q, hq, rfl⟩ := opt_map h; cases hu
  | binOp op T x y T' =>
    simp only [evOp] at h
    split at h
    · cases h; cases hu
    · split at h
      · cases h; cases hu
      · obtain ⟨q, hq, rfl⟩ := opt_map h; cases hu
  | unOp op T x => obtain ⟨q, hq, rfl⟩ := opt_map h; cases hu
  | convert s d x => obtain ⟨q, hq, rfl⟩ := opt_map h; cases hu
  | fieldAddr s x f => obtain ⟨q, hq, rfl⟩ := opt_map h; cases hu
  | field s x f => obtain ⟨q, hq, rfl⟩ := opt_map h; cases hu
  | indexAddr T x i =>
    simp only [evOp] at h
    split at h
    · cases h; cases hu
    · split at h
      · cases h; cases hu
      · obtain ⟨q, hq, rfl⟩ := opt_map h; cases hu
  | index T x i =>
    simp only [evOp] at h
    split at h
    · cases h; cases hu
    · obtain ⟨q, hq, rfl⟩ := opt_map h; cases hu
  | slice T x l hh m =>
    simp only [evOp] at h
    split at h
    · cases h; cases hu
    · split at h
      · cases h; cases hu
      · obtain ⟨q, hq, rfl⟩ := opt_map h; cases hu
  | extract x i => obtain ⟨q, hq, rfl⟩ := opt_map h; cases hu
  | _ => cases h
theorem evG_upd {O : Oracle E} {ops : Array Oper} {S : ASt E} {o : Oper} {r : Res E} (h : evG O ops S o = some r) {id : Nat} {ob : AObj E} (hu : r.upd = some (id, ob)) : ∃ o', look S.objs id = some o' ∧ o'.live = true := by
  unfold evG at h
  split at h
  · exact evOp_upd (evG_plain h).1 hu
  · split at h
    · cases h
    · split at h
      · cases h
      · split at h
        · cases h; cases hu
        · cases h
theorem Base.step {w0 : Start} {ro0 : Nat → Nat → Prop} (hb : Base w0 ro0 a w ι ro) {nid : Nat} {r : Res E} {val : Value} (hp : OpPost E w w' ι ι' ro ro' nid r val) (hfresh : ι nid = none) (d : Option Nat) : Base w0 ro0 (a.put d val) w' ι' ro' where
  below := ⟨hp.os.trans hb.below.os, hp.tape.trans hb.below.tape, hp.output.trans hb.below.output, Nat.le_trans hb.below.size hp.size, fun k hk hne => (hp.frame k (Nat.lt_of_lt_of_le hk hb.below.size) (fun id o gh _ hi hblk => by
    rcases (hb.ilt id gh k hi hblk).1 with h | h
    · have h : w0.w.heap.size ≤ k := h; omega
    · exact hne h.symm)).trans (hb.below.block k hk hne)⟩
  rolt := hp.rolt
  ronew := fun k o h => by
    rcases hp.fresh k o h with h | h | ⟨id, o', gh, _, hi, hblk⟩
    · exact hb.ronew k o h
    · exact .inr (.inl (Nat.le_trans hb.below.size h))
    · exact .inr (hb.ilt id gh k hi hblk).1
  ilt := fun id gh k hi hblk => by
    by_cases hid : id = nid
    · subst hid
      obtain ⟨h1, h2⟩ := hp.inew gh k hi hblk
      refine ⟨?_, h1⟩
      rcases h2 with h | ⟨id', o', gh', _, _, hi', hblk'⟩
      · exact .inl (Nat.le_trans hb.below.size h)
      · exact (hb.ilt id' gh' k hi' hblk').1
    · rw [hp.iold id hid] at hi
      obtain ⟨h1, h2⟩ := hb.ilt id gh k hi hblk
      exact ⟨h1, Nat.lt_of_lt_of_le h2 hp.size⟩
  defers := by
    have := hb.defers
    cases d <;> exact this
  keep := fun q hq => by
    obtain ⟨h1, h2⟩ := hb.keep q hq
    refine ⟨fun k o h => ⟨hp.mono k o (h1 k o h).1, (hp.cell k o (h1 k o h).1).trans (h1 k o h).2⟩, fun id gh h => ?_⟩
    have h3 := h2 id gh h
    rw [hp.iold id (fun e => by subst e; rw [hfresh] at h3; cases h3)]
    exact h3
  held := fun k o h => by
    obtain ⟨h1, h2⟩ := hb.held k o h
    refine ⟨(hp.frame k (Array.getElem?_eq_some_iff.1 h1).1 fun id o gh _ hi => h2 id gh hi).trans h1, fun id gh hi hblk => ?_⟩
    by_cases hid : id = nid
    · subst hid
      rcases (hp.inew gh k hi hblk).2 with h | ⟨id', o', gh', _, _, hi', hblk'⟩
      · have := (Array.getElem?_eq_some_iff.1 h1).1; omega
      · exact h2 id' gh' hi' hblk'
    · rw [hp.iold id hid] at hi
      exact h2 id gh hi hblk
theorem condFree_mem : ∀ (loc : List (Nat × AV E)) (d : Nat), condFree d loc = true → ∀ t gs want u, (t, AVal.cond gs want u) ∈ loc → gs ≠ d
  | [], _, _, t, gs, want, u, h => by cases h
  | (t0, x) :: r, d, hc, t, gs, want, u, h => by
    cases h with
    | head =>
      simp only [condFree, Bool.and_eq_true] at hc
      intro e
      subst e
      simp at hc
    | tail _ h =>
      refine condFree_mem r d ?_ t gs want u h
      cases x <;> simp only [condFree, Bool.and_eq_true] at hc <;> first | exact hc | exact hc.2
theorem put_get {a : Act} {d : Option Nat} {val : Value} {t : Nat} (h : d ≠ some t) : (a.put d val).tmps[t]? = a.tmps[t]? := by
  cases d with
  | none => rfl
  | some d =>
    have : d ≠ t := fun e => h (by rw [e])
    simp [Act.put, Array.getElem?_setIfInBounds_ne this]
theorem put_size {a : Act} {d : Option Nat} {val : Value} : (a.put d val).tmps.size = a.tmps.size := by
  cases d <;> simp [Act.put]
theorem SRep.tm {tm tm' : Array Value} {v : Value} {x : AV E} (h : SRep E w ro ι tm v x) (he : ∀ gs want u, x = .cond gs want u → tm'[gs]? = tm[gs]?) : SRep E w ro ι tm' v x := by
  cases x with
  | cond gs want u =>
    have e := he gs want u rfl
    exact ⟨fun hc => h.1 (by rw [← e]; exact hc), fun hc => h.2 (by rw [← e]; exact hc)⟩
  | _ => exact h
theorem TmOk.step {n : Nat} {loc glob : List (Nat × AV E)} (hsz : a.tmps.size = n) (htm : TmOk E w ro ι a (loc ++ glob)) (hnc : NoCond glob) {d : Option Nat} {x : AV E} {val : Value} (hd : dstOk n d ((0, x) :: loc) = true)
    (hr : ∀ k o, ro k o → ro' k o) (hc : ∀ k o, ro k o → w'.cell? ⟨k, o, none⟩ = w.cell? ⟨k, o, none⟩) (hi : ∀ id gh, ι id = some gh → ι' id = some gh) (hslot : SlotOk E w' ro' ι' a val x) : TmOk E w' ro' ι' (a.put d val) (putL d x loc ++ glob) := by
  have old : ∀ t y, d ≠ some t → look (loc ++ glob) t = some y → ∃ v, (a.put d val).tmps[t]? = some v ∧ SRep E w' ro' ι' (a.put d val).tmps v y := by
    intro t y hne hl
    obtain ⟨v, hv, hs⟩ := htm t y hl
    refine ⟨v, (put_get hne).trans hv, (hs.mono hr hc hi).tm fun gs want u e => ?_⟩
    subst e
    cases d with
    | none => rfl
    | some d =>
      refine put_get fun e => ?_
      cases e
      have hmem := look_mem _ _ _ hl
      rcases List.mem_append.1 hmem with h | h
      · unfold dstOk at hd
        simp only [Bool.and_eq_true] at hd
        exact condFree_mem _ _ hd.2 t gs want u (List.mem_cons_of_mem _ h) rfl
      · have := hnc _ h
        simp [isCond] at this
  intro t y hl
  cases d with
  | none => exact old t y (fun e => by cases e) hl
  | some d =>
    simp only [putL, List.cons_append, look_nil, look_cons] at hl
    split at hl
    · rename_i hdt
      have hdt := Nat.eq_of_beq_eq_true hdt
      subst hdt
      cases hl
      unfold dstOk at hd
      simp only [Bool.and_eq_true] at hd
      have hlt : d < a.tmps.size := by rw [hsz]; simpa using hd.1
      refine ⟨val, by simp [Act.put, hlt], hslot _ fun gs want u e => ?_⟩
      subst e
      exact put_get fun e => by
        cases e
        exact condFree_mem _ _ hd.2 0 d want u List.mem_cons_self rfl
    · rename_i hdt
      exact old t y (fun e => by cases e; simp at hdt) hl
theorem look_unCond : ∀ (loc : List (Nat × AV E)) (t : Nat) (y : AV E), look (unCond loc) t = some y → ∃ x, look loc t = some x ∧ (y = .any ∨ (y = x ∧ isCond x = false))
  | [], t, y, h => by cases h
  | (t0, x) :: r, t, y, h => by
    unfold unCond at h
    cases hx : isCond x with
    | true =>
      rw [hx] at h
      simp only [cond_true, look_nil, look_cons] at h ⊢
      split at h
      · rename_i hb; rw [if_pos hb]; cases h; exact ⟨x, rfl, .inl rfl⟩
      · rename_i hb; rw [if_neg hb]; exact look_unCond r t y h
    | false =>
      rw [hx] at h
      simp only [cond_false, look_nil, look_cons] at h ⊢
      split at h
      · rename_i hb; rw [if_pos hb]; cases h; exact ⟨_, rfl, .inr ⟨rfl, hx⟩⟩
      · rename_i hb; rw [if_neg hb]; exact look_unCond r t y h
theorem noCond_unCond : ∀ (loc : List (Nat × AV E)), NoCond (unCond loc)
  | [] => fun p h => by cases h
  | (t, x) :: r => fun p h => by
    unfold unCond at h
    cases hx : isCond x with
    | true =>
      rw [hx] at h
      cases h with
      | head => rfl
      | tail _ h => exact noCond_unCond r p h
    | false =>
      rw [hx] at h
      cases h with
      | head => exact hx
      | tail _ h => exact noCond_unCond r p h
theorem TmOk.clean {loc glob : List (Nat × AV E)} (htm : TmOk E w ro ι a (loc ++ glob)) : TmOk E w ro ι a (unCond loc ++ glob) := by
  intro t y hl
  rw [look_app] at hl
  cases hu : look (unCond loc) t with
  | none =>
    rw [hu] at hl
    have hnone : look loc t = none := by
      cases hlo : look loc t with
      | none => rfl
      | some x =>
        exfalso
        have : ∀ (loc : List (Nat × AV E)), look loc t = some x → ∀ h : look (unCond loc) t = none, False := by
          intro loc
          induction loc with
          | nil => intro h; cases h
          | cons p r ih =>
            obtain ⟨t0, y0⟩ := p
            intro h1 h2
            unfold unCond at h2
            simp only [look_nil, look_cons] at h1
            split at h1
            · rename_i hb
              cases hx : isCond y0 <;> rw [hx] at h2 <;> simp [look_nil, look_cons, hb] at h2
            · rename_i hb
              cases hx : isCond y0 <;> rw [hx] at h2 <;> simp only [cond_true, cond_false, look_nil, look_cons, if_neg hb] at h2 <;> exact ih h1 h2
        exact this loc hlo hu
    exact htm t y (by rw [look_app, hnone]; exact hl)
  | some z =>
    rw [hu] at hl
    cases hl
    obtain ⟨x, hx, h⟩ := look_unCond loc t y hu
    obtain ⟨v, hv, hs⟩ := htm t x (by rw [look_app, hx])
    refine ⟨v, hv, ?_⟩
    rcases h with rfl | ⟨rfl, hc⟩
    · exact .any _
    · exact hs
theorem look_putO {objs : List (Nat × AObj E)} {nid : Nat} {r : Res E} {id : Nat} {o : AObj E} (h : look (putO objs nid r) id = some o) :
    (r.new = some o ∧ id = nid) ∨ (r.upd = some (id, o) ∧ (id ≠ nid ∨ r.new = none)) ∨ (look objs id = some o ∧ (id ≠ nid ∨ r.new = none) ∧ ∀ o', r.upd ≠ some (id, o')) := by
  unfold putO at h
  have tail : ∀ (_ : look ((match r.upd with | some u => [u] | none => []) ++ objs) id = some o), r.upd = some (id, o) ∨ (look objs id = some o ∧ ∀ o', r.upd ≠ some (id, o')) := by
    clear h
    intro h
    cases hu : r.upd with
    | none => rw [hu] at h; exact .inr ⟨h, fun o' e => by cases e⟩
    | some u =>
      obtain ⟨i, ob⟩ := u
      rw [hu] at h
      simp only [List.cons_append, List.nil_append, look_nil, look_cons] at h
      by_cases hb : Nat.beq i id = true
      · rw [if_pos hb] at h
        have := Nat.eq_of_beq_eq_true hb
        subst this
        cases h
        exact .inl rfl
      · rw [if_neg hb] at h
        refine .inr ⟨h, fun o' e => ?_⟩
        cases e
        simp at hb
  cases hn : r.new with
  | none =>
    rw [hn] at h
    rcases tail h with h | ⟨h, h'⟩
    · exact .inr (.inl ⟨h, .inr rfl⟩)
    · exact .inr (.inr ⟨h, .inr rfl, h'⟩)
  | some ob =>
    rw [hn] at h
    simp only [List.cons_append, List.nil_append, look_nil, look_cons] at h
    split at h
    · rename_i hb
      have := Nat.eq_of_beq_eq_true hb
      subst this
      cases h
      exact .inl ⟨rfl, rfl⟩
    · rename_i hb
      have hne : id ≠ nid := fun e => by subst e; simp at hb
      rcases tail h with h | ⟨h, h'⟩
      · exact .inr (.inl ⟨h, .inl hne⟩)
      · exact .inr (.inr ⟨h, .inl hne, h'⟩)
end
end
end Go.Proofs.YtiahkjjfhnfdiaaGreatDoor.Mir
namespace Go.Proofs.YtiahkjjfhnfdiaaGreatDoor.Mir
open Go Go.RowKit
noncomputable section
section
variable {P : Program} {E : Env P} {w w' : World} {ro ro' : Nat → Nat → Prop} {ι ι' : Nat → Option Gh} {a : Act}
theorem inj_step {objs : List (Nat × AObj E)} {nid : Nat} {r : Res E} {val : Value} (hp : OpPost E w w' ι ι' ro ro' nid r val) (hinj : Inj E objs ι) (hupd : ∀ id o, r.upd = some (id, o) → ∃ o', look objs id = some o' ∧ o'.live = true)
    (hilt : ∀ id gh k, ι id = some gh → gh.blk = some k → k < w.heap.size) (hids : ∀ id o, look objs id = some o → o.live = true → id ≠ nid) (objs' : List (Nat × AObj E))
    (hl : ∀ id o, look objs' id = some o → (r.new = some o ∧ id = nid) ∨ r.upd = some (id, o) ∨ (look objs id = some o ∧ ∀ o', r.upd ≠ some (id, o'))) : Inj E objs' ι' := by
  -- what block an object of the elder list has
  have key : ∀ id id' o o' gh gh' k, (r.new = some o ∧ id = nid) → o.live = true → o'.live = true → (r.upd = some (id', o') ∨ (look objs id' = some o' ∧ ∀ o', r.upd ≠ some (id', o'))) →
      ι' id = some gh → ι' id' = some gh' → gh.blk = some k → gh'.blk = some k → False := by
    intro id id' o o' gh gh' k ⟨hnew, hid⟩ hlive hlive' hother hi hi' hk hk'
    subst hid
    obtain ⟨q, hq, hql⟩ : ∃ q, look objs id' = some q ∧ q.live = true := by
      rcases hother with h | ⟨h, _⟩
      · exact hupd id' o' h
      · exact ⟨o', h, hlive'⟩
    have hne := hids id' q hq hql
    rw [hp.iold id' hne] at hi'
    have hklt := hilt id' gh' k hi' hk'
    obtain ⟨_, h⟩ := hp.inew gh k hi hk
    rcases h with h | ⟨i0, ob, gh0, hu, hdead, hi0, hk0⟩
    · omega
    · obtain ⟨q0, hq0, hql0⟩ := hupd i0 ob hu
      have e := hinj id' i0 q q0 gh' gh0 k hq hq0 hql hql0 hi' hi0 hk' hk0
      subst e
      rcases hother with h | ⟨_, h⟩
      · rw [hu] at h; cases h; rw [hdead] at hlive'; cases hlive'
      · exact h ob hu
  intro id id' o o' gh gh' k h1 h2 l1 l2 i1 i2 b1 b2
  have c1 := hl id o h1
  have c2 := hl id' o' h2
  rcases c1 with n1 | c1
  · rcases c2 with n2 | c2
    · rw [n1.2, n2.2]
    · exact (key id id' o o' gh gh' k n1 l1 l2 c2 i1 i2 b1 b2).elim
  · rcases c2 with n2 | c2
    · exact (key id' id o' o gh' gh k n2 l2 l1 c1 i2 i1 b2 b1).elim
    · obtain ⟨q1, hq1, hl1⟩ : ∃ q, look objs id = some q ∧ q.live = true := by
        rcases c1 with h | ⟨h, _⟩
        · exact hupd id o h
        · exact ⟨o, h, l1⟩
      obtain ⟨q2, hq2, hl2⟩ : ∃ q, look objs id' = some q ∧ q.live = true := by
        rcases c2 with h | ⟨h, _⟩
        · exact hupd id' o' h
        · exact ⟨o', h, l2⟩
      rw [hp.iold id (hids id q1 hq1 hl1)] at i1
      rw [hp.iold id' (hids id' q2 hq2 hl2)] at i2
      exact hinj id id' q1 q2 gh gh' k hq1 hq2 hl1 hl2 i1 i2 b1 b2
variable {w0 : Start} {ro0 : Nat → Nat → Prop} {n next : Nat} {loc glob : List (Nat × AV E)} {objs : List (Nat × AObj E)}
theorem OpPost.ext {nid : Nat} {r : Res E} {val : Value} (hp : OpPost E w w' ι ι' ro ro' nid r val) (hfresh : ι nid = none) : ∀ id gh, ι id = some gh → ι' id = some gh := by
  intro i gh hi
  rw [hp.iold i (fun e => by subst e; rw [hfresh] at hi; cases hi)]
  exact hi
theorem gam_step (hg : Gam E w0 ro0 ⟨n, loc ++ glob, objs, next⟩ a w ι ro) (hnc : NoCond glob) {d : Option Nat} {r : Res E} {val : Value} (hd : dstOk n d ((0, r.v) :: loc) = true)
    (hupd : ∀ id o, r.upd = some (id, o) → ∃ o', look objs id = some o' ∧ o'.live = true) (hp : OpPost E w w' ι ι' ro ro' next { r with v := .any } val) (hslot : SlotOk E w' ro' ι' a val r.v) :
    Gam E w0 ro0 ⟨n, putL d r.v loc ++ glob, putO objs next r, next + 1⟩ (a.put d val) w' ι' ro' := by
  have hfresh := hg.fresh next (Nat.le_refl _)
  have hilt : ∀ id gh k, ι id = some gh → gh.blk = some k → k < w.heap.size := fun id gh k h1 h2 => (hg.base.ilt id gh k h1 h2).2
  have hids : ∀ id o, look objs id = some o → id < next := hg.ids
  exact {
    base := hg.base.step hp hfresh d
    size := put_size.trans hg.size
    tmps := TmOk.step hg.size hg.tmps hnc hd hp.mono hp.cell (hp.ext hfresh) hslot
    objs := fun id o hl => by
      rcases look_putO hl with ⟨h1, h2⟩ | ⟨h1, _⟩ | ⟨h1, _, h3⟩
      · subst h2; exact hp.new o h1
      · exact hp.upd id o h1
      · exact ObjOk.step hp hfresh hg.inj hupd hilt h1 (fun e => by have := hids id o h1; omega) h3 (hg.objs id o h1)
    inj := inj_step hp hg.inj hupd hilt (fun id o h _ e => by have := hids id o h; omega) _ (fun id o hl => by
      rcases look_putO hl with h | ⟨h1, _⟩ | ⟨h1, _, h3⟩
      · exact .inl h
      · exact .inr (.inl h1)
      · exact .inr (.inr ⟨h1, h3⟩))
    fresh := fun id h => by
      have h : next + 1 ≤ id := h
      rw [hp.iold id (by omega)]
      exact hg.fresh id (by show next ≤ id; omega)
    ids := fun id o hl => by
      show id < next + 1
      rcases look_putO hl with ⟨_, h2⟩ | ⟨h1, _⟩ | ⟨h1, _, _⟩
      · omega
      · obtain ⟨o', h, _⟩ := hupd id o h1
        have := hids id o' h; omega
      · have := hids id o h1; omega }
theorem inlOf_inv {I : Inl E} {S : ASt E} {ro : Nat → Nat → Prop} {ι : Nat → Option Gh} (c : Ctx E S [] a w ι ro) {o : Oper} {f : FuncId} {args : List (AV E)} (h : inlOf I S o = some (f, args)) :
    o.guard = none ∧ ∃ cal as ts vs us p q, o.op = .call { callee := .value cal, args := as, argTypes := ts } ∧ a.eval cal = .func (.func f) vs us ∧ args = p ++ (argsA S.tmps [] as ++ q) ∧
      vs.size = p.length ∧ us.size = q.length ∧ (∀ (j : Nat) v c, vs[j]? = some v → p[j]? = some c → Rep E w ro ι v c) ∧ (∀ (j : Nat) v c, us[j]? = some v → q[j]? = some c → Rep E w ro ι v c) := by
  unfold inlOf at h
  split at h
  · rename_i cc hg hop
    obtain ⟨callee, as, ts⟩ := cc
    split at h
    · rename_i x hx
      have hx : callee = .value x := hx
      subst hx
      split at h
      · rename_i f' hf
        have hfo : a.eval x = .func (.func f') #[] #[] := by
          unfold calleeA at hf
          split at hf
          · cases hf; rfl
          · unfold funcOf at hf
            split at hf
            · rename_i heq
              cases hf
              have hx := c.get x
              rw [heq] at hx
              exact hx.raw_inv
            · cases hf
        cases hh : I.has f' with
        | false => rw [hh] at h; cases h
        | true =>
          rw [hh] at h
          cases h
          exact ⟨hg, x, as, ts, #[], #[], [], [], hop, hfo, by simp, rfl, rfl, fun j v c hv => by simp at hv, fun j v c hv => by simp at hv⟩
      · split at h
        · rename_i f' p q heq
          cases hh : I.has f' with
          | false => rw [hh] at h; cases h
          | true =>
            rw [hh] at h
            cases h
            have hx := c.get x
            rw [heq] at hx
            generalize hvx : a.eval x = vx at hx
            cases hx with
            | fn _ vs us _ _ h1 h2 h3 h4 => exact ⟨hg, x, as, ts, vs, us, p, q, hop, hvx, rfl, h1, h2, h3, h4⟩
        · cases h
    · cases h
  · cases h
theorem gam_in (hg : Gam E w0 ro0 ⟨n, loc ++ glob, objs, next⟩ a w ι ro) (hnc : NoCond glob) {d : Option Nat} {x : AV E} {val : Value} (hd : dstOk n d ((0, x) :: loc) = true) (hx : isCond x = false) (hv : Rep E w' ro' ι' val x)
    {objs' : List (Nat × AObj E)} {next' : Nat} (hb : Base w0 ro0 a w' ι' ro') (ho : ∀ (id : Nat) o, look objs' id = some o → ObjOk E w' ro' ι' id o) (hi : Inj E objs' ι') (hf : ∀ id, next' ≤ id → ι' id = none) (hids : ∀ id o, look objs' id = some o → id < next')
    (hkeep : ∀ k o, ro k o → ro' k o ∧ w'.cell? ⟨k, o, none⟩ = w.cell? ⟨k, o, none⟩) (hext : ∀ id gh, ι id = some gh → ι' id = some gh) :
    Gam E w0 ro0 ⟨n, putL d x loc ++ glob, objs', next'⟩ (a.put d val) w' ι' ro' where
  base := ⟨hb.below, hb.rolt, hb.ronew, hb.ilt, (by have := hb.defers; cases d <;> exact this), hb.keep, hb.held⟩
  size := put_size.trans hg.size
  tmps := TmOk.step hg.size hg.tmps hnc hd (fun k o h => (hkeep k o h).1) (fun k o h => (hkeep k o h).2) hext fun tm _ => by
    cases x <;> first | exact hv | cases hx
  objs := ho
  inj := hi
  fresh := hf
  ids := hids
theorem evSeq_sound {R : Type} {O : Oracle E} (hO : OracleOk E O) {ops : Array Oper} (hnc : NoCond glob) {k : ASt E → Option R} {rr : R} {Q : Exit → Act → World → Prop}
    (hk : ∀ S' a' w' ι' ro', NoCond S'.tmps → Gam E w0 ro0 S' a' w' ι' ro' → S'.n = n → k S' = some rr → Q .normal a' w') :
    ∀ (l : List Oper) (loc : List (Nat × AV E)) (objs : List (Nat × AObj E)) (next : Nat) (a : Act) (w : World) (ι : Nat → Option Gh) (ro : Nat → Nat → Prop), Gam E w0 ro0 ⟨n, loc ++ glob, objs, next⟩ a w ι ro → evSeq O ops n glob l loc objs next k = some rr →
      wpList P ops Q l a w
  | [], loc, objs, next, a, w, ι, ro, hg, h => by
    unfold evSeq at h
    refine wpList_nil (hk ⟨n, unCond loc ++ glob, objs, next⟩ a w ι ro (fun p hp => ?_) ⟨hg.base, hg.size, hg.tmps.clean, hg.objs, hg.inj, hg.fresh, hg.ids⟩ rfl h)
    rcases List.mem_append.1 hp with hp | hp
    · exact noCond_unCond loc p hp
    · exact hnc p hp
  | o :: rest, loc, objs, next, a, w, ι, ro, hg, h => by
    unfold evSeq at h
    split at h
    · rename_i f args hin
      have c : Ctx E ⟨n, loc ++ glob, objs, next⟩ [] a w ι ro := ⟨hg.tmps, fun j b hb => by simp [hasAsm] at hb, hg.base.rolt, hg.objs, hg.fresh _ (Nat.le_refl _)⟩
      obtain ⟨hg0, cal, as, ts, vs, us, p, q, hop, hfo, rfl, hp1, hq1, hp2, hq2⟩ := inlOf_inv c hin
      obtain ⟨hfn, hcalls⟩ := hO.2.2.2.2.1 _ _ _ _ _ _ h
      refine wpList_step fun K hK => ?_
      rw [if_pos (show Region.wanted o (yielded ops a.tmps) = true by simp [Region.wanted, hg0])]
      unfold Oper.wp
      rw [enter_fn hop hfo hfn]
      refine (hcalls w0 ro0 a w ι ro _ hg.base hg.objs hg.inj hg.fresh hg.ids (by simp [argsA, hp1, hq1]) fun i v x hv hx => ?_).mono fun e w' he => ?_
      · refine app_rep (by simpa using hp1) (fun j v c h1 h2 => hp2 j v c (by simpa using h1) h2) (app_rep (by simp [argsA]) (fun j v x h1 h2 => argsA_rep c as j v x (by simpa using h1) h2) fun j v c h1 h2 => hq2 j v c (by simpa using h1) h2) i v x hv hx
      · obtain ⟨v, x, objs', next', ι', ro', rfl, hk', hv, hb, ho, hi, hf, hids, hkeep, hext⟩ := he
        split at hk'
        · rename_i hd
          simp only [Bool.and_eq_true, Bool.not_eq_true'] at hd
          exact hK _ _ (evSeq_sound hO hnc hk rest _ _ _ _ _ _ _ (gam_in hg hnc hd.1 hd.2 hv hb ho hi hf hids hkeep hext) hk')
        · cases hk'
    split at h
    · rename_i r hr
      split at h
      · rename_i hd
        cases hok : r.ok with
        | false => rw [hok] at h; cases h
        | true =>
          rw [hok] at h
          simp only [cond_true] at h
          refine wpList_step fun K hK => ?_
          refine evG_sound (S := ⟨n, loc ++ glob, objs, next⟩) hg.base.rolt hg.tmps hg.objs (hg.fresh _ (Nat.le_refl _)) hO hr hok fun val w' ι' ro' hp hslot => ?_
          refine hK _ _ (evSeq_sound hO hnc hk rest _ _ _ _ _ _ _ (gam_step hg hnc hd (fun id o hu => evG_upd hr hu) hp hslot) h)
      · cases h
    · cases h
end
end
end Go.Proofs.YtiahkjjfhnfdiaaGreatDoor.Mir
