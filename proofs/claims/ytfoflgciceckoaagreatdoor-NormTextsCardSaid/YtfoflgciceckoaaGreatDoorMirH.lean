/- The Mirror, part H: slice literals, append, calls. -/
import Derived.Test.YtfoflgciceckoaaGreatDoorMirG
namespace Go.Proofs.YtfoflgciceckoaaGreatDoor.Mir
open Go Go.RowKit

section
variable {P : Program} {E : Env P} {w : World} {ro : Nat → Nat → Prop} {ι : Nat → Option Gh} {S : ASt E} {asm : List (Nat × Bool)} {a : Act}

theorem TRep.cells {v : Value} {t : E.Ty} {x : E.Den t} (h : TRep E w ro v t x) : RowRep E w ro v.cells (E.cells t x) := by
  rcases h with ⟨ha, vs, rfl, hrow⟩ | ⟨ha, c, hc, hd⟩
  · exact hrow
  · rw [Value.cells_one hd.one, hc]
    refine ⟨rfl, fun j u e hu he => ?_⟩
    cases j with
    | zero => simp at hu he; subst hu; subst he; exact hd
    | succ j => simp at he

/-- The parts of a slice literal, laid one behind the other. -/
theorem fill_seq (t : E.Ty) : ∀ (ps : List (Nat × Value)) (qs : List (Nat × AV E)) (k : Nat) (xs : List (E.Den t)) (C : Array Value), ps.length = qs.length →
    (∀ (i : Nat) p q, ps[i]? = some p → qs[i]? = some q → p.1 = q.1 ∧ Rep E w ro ι p.2 q.2) → partsD t k qs = some xs → (k + xs.length) * E.size t ≤ C.size →
    ∃ D, Instr.fill (fun i => some (i * E.size t, E.size t)) C ps = some D ∧ D.size = C.size ∧ (∀ q, q < k * E.size t → D[q]? = C[q]?) ∧
      ∀ (i : Nat) x (j : Nat) c, xs[i]? = some x → (E.cells t x)[j]? = some c → ∃ u, D[(k + i) * E.size t + j]? = some u ∧ DRep E w ro u c
  | [], [], k, xs, C, _, _, h, _ => by
    cases h
    exact ⟨C, rfl, rfl, fun _ _ => rfl, fun i x j c hi => by simp at hi⟩
  | p :: ps, q :: qs, k, xs, C, hl, hpq, h, hC => by
    obtain ⟨i, v⟩ := p
    obtain ⟨i', x⟩ := q
    obtain ⟨h1, h2⟩ := hpq 0 _ _ rfl rfl
    simp only at h1 h2
    subst h1
    unfold partsD at h
    split at h
    · rename_i hk
      have hk := Nat.eq_of_beq_eq_true hk
      subst hk
      cases hf : foldA t x with
      | none => rw [hf] at h; cases h
      | some y =>
        rw [hf] at h
        cases hr : partsD t (i + 1) qs with
        | none => rw [hr] at h; cases h
        | some ys =>
          rw [hr] at h
          cases h
          have hrow := (foldA_rep h2 hf).cells
          have hvs : v.cells.size = E.size t := hrow.1.trans (E.cells_len t y)
          obtain ⟨f1, f2⟩ := set_fold (i * E.size t) v.cells.toList 0 C
          have e : (v.cells.zipIdx.foldl (fun cs (c, j) => cs.setIfInBounds (i * E.size t + j) c) C) = ((v.cells.toList.zipIdx 0).foldl (fun (cs : Array Value) p => cs.setIfInBounds (i * E.size t + p.2) p.1) C) := by
            rw [← Array.foldl_toList, Array.toList_zipIdx]
          simp only [List.length_cons] at hC
          have hC1 : (i + 1) * E.size t ≤ C.size := Nat.le_trans (Nat.mul_le_mul_right _ (by omega)) hC
          have hsucc : (i + 1) * E.size t = i * E.size t + E.size t := Nat.succ_mul _ _
          obtain ⟨D, hD, hDs, hD1, hD2⟩ := fill_seq t ps qs (i + 1) ys _ (by simpa using hl) (fun i p q hp hq => hpq (i + 1) p q (by simpa using hp) (by simpa using hq)) hr
            (show (i + 1 + ys.length) * E.size t ≤ ((v.cells.toList.zipIdx 0).foldl (fun (cs : Array Value) p => cs.setIfInBounds (i * E.size t + p.2) p.1) C).size by
              rw [f1]; exact Nat.le_trans (Nat.mul_le_mul_right _ (by omega)) hC)
          refine ⟨D, ?_, hDs.trans f1, fun q hq => ?_, fun n x' j c hx hc => ?_⟩
          · unfold Instr.fill
            simp only
            rw [if_neg (by simp; omega), e]
            exact hD
          · rw [hD1 q (by omega), f2 q, if_neg (by omega)]
          · have hj : j < E.size t := by rw [← E.cells_len t x']; exact (List.getElem?_eq_some_iff.1 hc).1
            cases n with
            | zero =>
              simp at hx
              subst hx
              rw [Nat.add_zero, hD1 _ (by omega), f2, if_pos (by simp; omega)]
              have hjv : j < v.cells.size := by omega
              refine ⟨v.cells[j], ?_, hrow.2 j _ c (Array.getElem?_eq_getElem hjv) hc⟩
              rw [show i * E.size t + j - i * E.size t - 0 = j from by omega]
              simp [hjv]
            | succ n =>
              obtain ⟨u, hu, hd⟩ := hD2 n x' j c (by simpa using hx) hc
              exact ⟨u, by rw [show i + (n + 1) = i + 1 + n from by omega]; exact hu, hd⟩
    · cases h
  | [], _ :: _, _, _, _, hl, _, _, _ => by simp at hl
  | _ :: _, [], _, _, _, hl, _, _, _ => by simp at hl

/-- A new block that is only read. -/
theorem OpPost.roBlock (c : Ctx E S asm a w ι ro) (ob : Obj) (val : Value) (x : AV E) (hv : Rep E (w.alloc ob) (fun k o => ro k o ∨ k = w.heap.size) ι val x) :
    OpPost E w (w.alloc ob) ι ι ro (fun k o => ro k o ∨ k = w.heap.size) S.next (.pure x) val where
  os := rfl
  tape := rfl
  output := rfl
  size := by simp
  frame := fun k hk _ => heap_alloc_old w _ hk
  cell := fun k o h => cell_alloc w _ (c.rolt k o h) o
  mono := fun _ _ h => .inl h
  rolt := fun k o h => by
    rcases h with h | h
    · have := c.rolt k o h; simp; omega
    · simp; omega
  fresh := fun k o h => by
    rcases h with h | h
    · exact .inl h
    · exact .inr (.inl (by omega))
  iold := fun _ _ => rfl
  inew := fun gh k h => by rw [c.fresh] at h; cases h
  nonew := fun _ => rfl
  upd := fun id o h => by cases h
  new := fun o h => by cases h
  val := hv

theorem done_buildSlice (c : Ctx E S asm a w ι ro) {o : Oper} {T : TypeId} {n : Nat} {ps : Array (Nat × Operand)} (ho : o.op = .buildSlice T n ps) {r : AV E} (h : evBuildSlice T n (partsA S.tmps asm ps) = some r) :
    OpDone E o a w ι ro S.next (.pure r) := by
  unfold evBuildSlice at h
  split at h
  · rename_i e he
    split at h
    · rename_i t ht
      have htid := E.code_ok e t ht
      subst htid
      split at h
      · rename_i xs hxs
        split at h
        · rename_i hcond
          obtain ⟨hn, hmax⟩ := hcond
          cases h
          subst hn
          obtain ⟨i, z, hi, his, hib, hz, hzs⟩ := E.info_ok t
          have hu := elemT_inv he
          have hrel := parts_rel c ps
          let zs : Array Value := if xs.length * E.size t = 0 then #[] else z.cells
          let C : Array Value := (Array.range (xs.length * E.size t)).map (zs[· % zs.size]!)
          have hCs : C.size = xs.length * E.size t := by simp [C]
          obtain ⟨D, hD, hDs, _, hD2⟩ := fill_seq (w := w) (ro := ro) (ι := ι) t (ps.map fun (i, x) => (i, a.eval x)).toList (partsA S.tmps asm ps) 0 xs C (by simp [partsA]) hrel hxs (by rw [hCs, Nat.zero_add]; exact Nat.le_refl _)
          refine .inl ⟨.slice (some ⟨w.heap.size, 0, none⟩) xs.length xs.length, w.alloc (.cells D (E.tid t)), ι, fun k o => ro k o ∨ k = w.heap.size, ?_, ?_⟩
          · have h24 : ¬ (xs.length * E.size t > 2 ^ 24) := by omega
            simp only [execOp, ho, Instr.buildSlice]
            simp only [Sem.run_bind, run_underlying hu, Result.andThen_ok, run_size_tid, if_neg h24]
            have hD' : Instr.fill (fun i => some (i * E.size t, E.size t)) ((Array.range (xs.length * E.size t)).map (zs[· % zs.size]!)) (ps.map fun (i, x) => (i, a.eval x)).toList = some D := hD
            by_cases h0 : xs.length * E.size t = 0
            · have e0 : zs = #[] := if_pos h0
              rw [e0] at hD'
              rw [if_pos h0]
              simp only [Sem.run_bind, Sem.run_pure, Result.andThen_ok]
              rw [hD']
              simp [newRow]
            · have e0 : zs = z.cells := if_neg h0
              rw [e0] at hD'
              have hzv : (zeroValue (E.tid t)).run P w = .ok z w := by simp [zeroValue, typeInfo, hi, hz]
              rw [if_neg h0]
              simp only [Sem.run_bind, hzv, Sem.run_pure, Result.andThen_ok]
              rw [hD']
              simp [newRow]
          · refine OpPost.roBlock c _ _ _ (.d _ _ ?_)
            refine .slice t xs w.heap.size 0 xs.length (fun i j => (D[i * E.size t + j]?).getD undef) (Nat.le_refl _) (fun i x j cc hx hc => ?_) (fun i x j cc hx hc => ?_)
            · obtain ⟨u, hu1, hd⟩ := hD2 i x j cc hx hc
              simp only [Nat.zero_add] at hu1 ⊢
              refine ⟨.inr trivial, ?_⟩
              rw [cell_of_row (w.alloc (.cells D (E.tid t))) w.heap.size _ D (E.tid t) (0, 0) (heap_alloc_new w _), hu1]
              rfl
            · obtain ⟨u, hu1, hd⟩ := hD2 i x j cc hx hc
              simp only [Nat.zero_add] at hu1
              simp only [hu1, Option.getD_some]
              exact hd.mono (fun _ _ h => .inl h) (fun k o h => cell_alloc w _ (c.rolt k o h) o)
        · cases h
      · cases h
    · cases h
  · cases h

/-- The cells of a slice's elements, as one list. -/
theorem DRep.row {v : Value} {t : E.Ty} {l : List (E.Den t)} (h : DRep E w ro v (.slice t l)) : ∃ (ad : Option Addr) (cap : Nat) (news : List Value), v = .slice ad l.length cap ∧ news.length = l.length * E.size t ∧ (ad = none → l.length = 0) ∧
    (∀ a, ad = some a → ∀ j u, news[j]? = some u → w.cell? (a.add j) = some u) ∧ (∀ u ∈ news, u.oneCell' = true) ∧
    (∀ (i : Nat) x (j : Nat) c, l[i]? = some x → (E.cells t x)[j]? = some c → ∃ u, news[i * E.size t + j]? = some u ∧ DRep E w ro u c) := by
  obtain ⟨ad, cap, rfl, hd⟩ := h.slice_inv
  rcases hd with rfl | ⟨g, off, rfl, hcap, f, f1, f2⟩
  · exact ⟨ad, cap, [], rfl, by simp, fun _ => rfl, fun a _ j u hu => by simp at hu, fun u hu => by simp at hu, fun i x j c hi => by simp at hi⟩
  · have hpos := E.size_pos t
    have hmem : ∀ q, q < l.length * E.size t → ∃ x c, l[q / E.size t]? = some x ∧ (E.cells t x)[q % E.size t]? = some c := by
      intro q hq
      have h1 : q / E.size t < l.length := Nat.div_lt_of_lt_mul (by rw [Nat.mul_comm]; exact hq)
      have h2 : q % E.size t < (E.cells t l[q / E.size t]).length := by rw [E.cells_len]; exact Nat.mod_lt _ hpos
      exact ⟨_, _, List.getElem?_eq_getElem h1, List.getElem?_eq_getElem h2⟩
    refine ⟨_, cap, (List.range (l.length * E.size t)).map fun q => f (q / E.size t) (q % E.size t), rfl, by simp, (fun h => by cases h), fun a ha j u hu => ?_, fun u hu => ?_, fun i x j c hi hc => ?_⟩
    · cases ha
      have hj : j < l.length * E.size t := by have := (List.getElem?_eq_some_iff.1 hu).1; simpa using this
      simp [hj] at hu
      obtain ⟨x, c, hx, hc⟩ := hmem j hj
      have := (f1 _ x _ c hx hc).2
      rw [Nat.add_assoc, show j / E.size t * E.size t + j % E.size t = j from by rw [Nat.mul_comm]; exact Nat.div_add_mod j _] at this
      rw [add_none, this, hu]
    · simp only [List.mem_map, List.mem_range] at hu
      obtain ⟨q, hq, rfl⟩ := hu
      obtain ⟨x, c, hx, hc⟩ := hmem q hq
      exact (f2 _ x _ c hx hc).one
    · have hj : j < E.size t := by rw [← E.cells_len t x]; exact (List.getElem?_eq_some_iff.1 hc).1
      have hi' : i < l.length := (List.getElem?_eq_some_iff.1 hi).1
      have hq : i * E.size t + j < l.length * E.size t := by
        have := Nat.mul_le_mul_right (E.size t) (show i + 1 ≤ l.length by omega)
        rw [Nat.succ_mul] at this
        omega
      have e1 : (i * E.size t + j) / E.size t = i := by rw [Nat.mul_comm, Nat.mul_add_div hpos]; simp [Nat.div_eq_of_lt hj]
      have e2 : (i * E.size t + j) % E.size t = j := by rw [Nat.mul_comm, Nat.mul_add_mod]; exact Nat.mod_eq_of_lt hj
      exact ⟨f i j, by simp [hq, e1, e2], f2 i x j c hi hc⟩

/-- The cells of an owned row that reads as a list. -/
theorem rowD_of_slice {v : Value} {t : E.Ty} {l : List (E.Den t)} {xs : List Value} {b : Option Nat}
    (hown : (w.ownsRow 0 (E.tid t) (E.size t) v l.length xs ∧ b = v.ownBlock) ∨ (l.length = 0 ∧ xs = [] ∧ b = none ∧ ∃ ad, v = .slice ad 0 0)) (hd1 : DRep E w ro v (.slice t l)) : RowD E w ro t xs l := by
  intro i x j c hx hc
  obtain ⟨ad1, cap1, hv, hd⟩ := hd1.slice_inv
  rcases hd with rfl | ⟨g, off, rfl, _, f, f1, f2⟩
  · simp at hx
  · have hi' : i < l.length := (List.getElem?_eq_some_iff.1 hx).1
    rcases hown with ⟨hown, _⟩ | ⟨h0, _⟩
    · have hcell := (f1 i x j c hx hc).2
      have hj : j < E.size t := by rw [← E.cells_len t x]; exact (List.getElem?_eq_some_iff.1 hc).1
      have hq : i * E.size t + j < xs.length := by
        rw [hown.1]
        have := Nat.mul_le_mul_right (E.size t) (show i + 1 ≤ l.length by omega)
        rw [Nat.succ_mul] at this
        omega
      have hoff : off = 0 := by
        rcases hown.2 with ⟨h0, _⟩ | ⟨g', cap', cur, h0, _⟩
        · rw [h0] at hv; cases hv
        · rw [h0] at hv; cases hv; rfl
      subst hoff
      have := hown.cells (g := g) (by rw [hv]; rfl) _ _ (List.getElem?_eq_getElem hq)
      rw [add_none, ← Nat.add_assoc, hcell] at this
      exact ⟨f i j, by rw [List.getElem?_eq_getElem hq]; exact this.symm, f2 i x j c hx hc⟩
    · omega

/-- A row whose cells read as a list is a slice that does, once its cells are laid open. -/
theorem slice_of_rowD {v : Value} {t : E.Ty} {l : List (E.Den t)} {xs : List Value} {b : Option Nat} (hown : (w.ownsRow 0 (E.tid t) (E.size t) v l.length xs ∧ b = v.ownBlock) ∨ (l.length = 0 ∧ xs = [] ∧ b = none ∧ ∃ ad, v = .slice ad 0 0))
    (hro : ∀ g o, b = some g → o < l.length * E.size t → ro g o) (hrow : RowD E w ro t xs l) : DRep E w ro v (.slice t l) := by
  rcases hown with ⟨hown, rfl⟩ | ⟨h0, _, _, ad, rfl⟩
  · rcases hown.2 with ⟨h0, hn⟩ | ⟨g', cap', cur, h0, _, hg, hnc', _, hcs, htake⟩
    · have e1 : l = [] := List.eq_nil_of_length_eq_zero hn
      rw [h0, e1]
      exact .nil _ _ _
    · have := DRep.slice (E := E) (w := w) (ro := ro) t l g' 0 cap' (fun i j => (xs[i * E.size t + j]?).getD undef) hnc'
        (fun i x j cc hx hc => by
          obtain ⟨u, hu, hd⟩ := hrow i x j cc hx hc
          simp only [Nat.zero_add]
          refine ⟨hro g' _ (by rw [h0]; rfl) (by rw [← hown.1]; exact (List.getElem?_eq_some_iff.1 hu).1), ?_⟩
          have := hown.cells (g := g') (by rw [h0]; rfl) _ _ hu
          rw [add_none, Nat.zero_add] at this
          rw [this, hu]
          rfl)
        (fun i x j cc hx hc => by
          obtain ⟨u, hu, hd⟩ := hrow i x j cc hx hc
          simp only [hu, Option.getD_some]
          exact hd)
      rw [h0]
      exact this
  · have e1 : l = [] := List.eq_nil_of_length_eq_zero h0
    rw [e1]
    exact .nil _ _ _

theorem RowD.mono {w' : World} {ro' : Nat → Nat → Prop} {t : E.Ty} {xs : List Value} {l : List (E.Den t)} (hr : ∀ k o, ro k o → ro' k o) (hc : ∀ k o, ro k o → w'.cell? ⟨k, o, none⟩ = w.cell? ⟨k, o, none⟩) (h : RowD E w ro t xs l) : RowD E w' ro' t xs l :=
  fun i x j c hx hc' => by
    obtain ⟨u, hu, hd⟩ := h i x j c hx hc'
    exact ⟨u, hu, hd.mono hr hc⟩

theorem RowD.app {t : E.Ty} {xs news : List Value} {l1 l2 : List (E.Den t)} (hx : xs.length = l1.length * E.size t) (h1 : RowD E w ro t xs l1) (h2 : RowD E w ro t news l2) : RowD E w ro t (xs ++ news) (l1 ++ l2) := by
  intro i x j c hx' hc
  rcases Nat.lt_or_ge i l1.length with hi1 | hi1
  · rw [List.getElem?_append_left hi1] at hx'
    obtain ⟨u, hu, hd⟩ := h1 i x j c hx' hc
    have hlt := (List.getElem?_eq_some_iff.1 hu).1
    exact ⟨u, by rw [List.getElem?_append_left hlt]; exact hu, hd⟩
  · rw [List.getElem?_append_right hi1] at hx'
    obtain ⟨u, hu, hd⟩ := h2 (i - l1.length) x j c hx' hc
    have e1 : i * E.size t = l1.length * E.size t + (i - l1.length) * E.size t := by rw [← Nat.add_mul]; congr 1; omega
    refine ⟨u, ?_, hd⟩
    rw [List.getElem?_append_right (by rw [hx, e1]; omega), hx, e1, show l1.length * E.size t + (i - l1.length) * E.size t + j - l1.length * E.size t = (i - l1.length) * E.size t + j from by omega]
    exact hu

/-- append onto an owned row. -/
theorem OwnT.shape {gh : Gh} {xs : List Value} (h : OwnT w gh xs) : ∃ ad cap, gh.v = .slice ad gh.n cap ∧ (0 < gh.n → ∃ g, ad = some ⟨g, 0, none⟩) := by
  rcases h with ⟨h, _⟩ | ⟨h0, _, _, ad, h⟩
  · rcases h.2 with ⟨h1, h2⟩ | ⟨g, cap, cur, h1, _⟩
    · exact ⟨none, 0, by rw [h1, h2], fun h => by omega⟩
    · exact ⟨_, cap, h1, fun _ => ⟨g, rfl⟩⟩
  · exact ⟨ad, 0, by rw [h, h0], fun h => by omega⟩

/-- What is appended: a slice; a text. -/
theorem DRep.src {v : Value} {t : E.Ty} {l : List (E.Den t)} {T e' : TypeId} (h : DRep E w ro v (.slice t l)) (hT : P.underlying T = some (.slice e')) : ∃ news, Src P (E.size t) T v l.length news w ∧ RowD E w ro t news l := by
  obtain ⟨ad, cap, news, rfl, hnl, had, hnc, hn1, hnd⟩ := h.row
  cases ad with
  | none =>
    have h0 := had rfl
    have hn : news = [] := List.eq_nil_of_length_eq_zero (by rw [hnl, h0, Nat.zero_mul])
    subst hn
    exact ⟨[], by rw [h0]; exact Src.ofNil w hT cap, hnd⟩
  | some A => exact ⟨news, Src.ofSlice w hT A _ cap news hnl (hnc A rfl) hn1, hnd⟩
theorem str_src {t : E.Ty} {T : TypeId} (g : Int → E.Den t) (hg : ∀ n, E.cells t (g n) = [.int .u8 n]) (hT : P.underlying T = some .string) (s : List UInt8) :
    ∃ news, Src P (E.size t) T (.string ⟨s.toArray⟩) (s.map fun b => g (b.toNat : Int)).length news w ∧ RowD E w ro t news (s.map fun b => g (b.toNat : Int)) := by
  have h1 : E.size t = 1 := by rw [← E.cells_len t (g 0), hg]; rfl
  refine ⟨byteCells ⟨s.toArray⟩, ?_, fun i x j c hx hc => ?_⟩
  · rw [h1, List.length_map]
    exact Src.ofString w hT ⟨s.toArray⟩
  · rw [List.getElem?_map] at hx
    cases hb : s[i]? with
    | none => rw [hb] at hx; cases hx
    | some b =>
      rw [hb] at hx
      cases hx
      rw [hg] at hc
      have hj : j = 0 := by have := (List.getElem?_eq_some_iff.1 hc).1; simpa using this
      subst hj
      cases hc
      refine ⟨.int .u8 b.toNat, ?_, .int .u8 _⟩
      rw [h1, Nat.mul_one, Nat.add_zero]
      unfold byteCells
      simp [hb]

theorem append_post (c : Ctx E S asm a w ι ro) (t : E.Ty) (T T' : TypeId) (ty : TypeId) (hT : P.underlying T = some (.slice (E.tid t))) (v : Value) (l1 l2 : List (E.Den t)) (xs : List Value) (u : Value) (news : List Value) (upd : Option (Nat × AObj E)) (b : Option Nat)
    (hown : (w.ownsRow 0 (E.tid t) (E.size t) v l1.length xs ∧ b = v.ownBlock) ∨ (l1.length = 0 ∧ xs = [] ∧ b = none ∧ ∃ ad, v = .slice ad 0 0)) (hxs : RowD E w ro t xs l1)
    (hro : ∀ g, b = some g → ∀ o, l1.length * E.size t ≤ o → ¬ ro g o) (hs2 : Src P (E.size t) T' u l2.length news w) (hnd : RowD E w ro t news l2)
    (hb : (l1.length + l2.length) * E.bytes t ≤ 140737488355328) (hupd : b = none ∧ upd = none ∨ ∃ id gh, upd = some (id, .dead) ∧ ι id = some gh ∧ gh.blk = b) :
    ∃ v' w' ι' ro', (Builtin.append_ #[T, T'] ty #[v, u]).run P w = .ok v' w' ∧ OpPost E w w' ι ι' ro ro' S.next ⟨true, .grow t (l1 ++ l2) S.next, upd, some (.tail true)⟩ v' := by
  obtain ⟨i, z, hi, his, hib, hz, hzs⟩ := E.info_ok t
  have hbp := E.bytes_pos t
  have h63 : l1.length + l2.length ≤ maxLen := by
    have : l1.length + l2.length ≤ (l1.length + l2.length) * E.bytes t := Nat.le_mul_of_pos_right _ hbp
    unfold maxLen; omega
  obtain ⟨v', w', b', hrun, hown', hgrow, hat, hkept⟩ := run_append_gen (P := P) (w := w) T T' ty (E.tid t) i z hT hi hz (by rw [hzs, his]) v l1.length xs b (by rw [his]; exact hown) u l2.length news (by rw [his]; exact hs2) h63 (by rw [hib]; exact hb)
  rw [his] at hown'
  have hxl : xs.length = l1.length * E.size t := by
    rcases hown with h | ⟨h0, h1, _⟩
    · exact h.1.1
    · rw [h0, h1]; simp
  have hcellro : ∀ k o, ro k o → w'.cell? ⟨k, o, none⟩ = w.cell? ⟨k, o, none⟩ := by
    intro k o hr
    by_cases hk : b = some k
    · have ho : o < l1.length * E.size t := by
        rcases Nat.lt_or_ge o (l1.length * E.size t) with h | h
        · exact h
        · exact absurd hr (hro k hk o h)
      have hox : o < xs.length := by rw [hxl]; exact ho
      rcases hown with ⟨hown, hbe⟩ | ⟨_, _, hbe, _⟩
      · have h1 := hkept k hk o _ (List.getElem?_eq_getElem hox)
        have h2 := hown.cells (hbe ▸ hk) o _ (List.getElem?_eq_getElem hox)
        rw [add_none, Nat.zero_add] at h2
        rw [h1, h2]
      · rw [hbe] at hk; cases hk
    · exact World.cell?_of_block (hgrow.block k (c.rolt k o hr) (fun e => hk e.symm))
  let ro' : Nat → Nat → Prop := fun k o => ro k o ∨ (b' = some k ∧ o < (l1.length + l2.length) * E.size t)
  let gh' : Gh := ⟨v', l1.length + l2.length, E.tid t, E.size t, b'⟩
  have hlen : (l1 ++ l2).length = l1.length + l2.length := by simp
  have hown2 : (w'.ownsRow 0 (E.tid t) (E.size t) v' (l1 ++ l2).length (xs ++ news) ∧ b' = v'.ownBlock) ∨ ((l1 ++ l2).length = 0 ∧ xs ++ news = [] ∧ b' = none ∧ ∃ ad, v' = .slice ad 0 0) := by
    rw [hlen]; exact hown'
  have hd' : DRep E w' ro' v' (.slice t (l1 ++ l2)) :=
    slice_of_rowD hown2 (fun g o hg ho => .inr ⟨hg, by rw [← hlen]; exact ho⟩) ((RowD.app hxl hxs hnd).mono (fun _ _ h => .inl h) hcellro)
  have hlt' : ∀ k, b' = some k → k < w'.heap.size := by
    intro k hk
    rcases hown' with ⟨h, rfl⟩ | ⟨_, _, h, _⟩
    · exact (h.lt k hk).2
    · rw [h] at hk; cases hk
  have hnotro : ∀ g, b' = some g → ∀ o, (l1.length + l2.length) * E.size t ≤ o → ¬ ro g o := by
    intro g hg o ho hr
    rcases hat with h | h
    · rw [h] at hg
      have := Nat.mul_le_mul_right (E.size t) (show l1.length ≤ l1.length + l2.length by omega)
      exact hro g hg o (by omega) hr
    · rw [h] at hg
      cases hg
      exact absurd (c.rolt _ _ hr) (by omega)
  refine ⟨v', w', setGh ι S.next gh', ro', hrun, {
    os := hgrow.os
    tape := hgrow.tape
    output := hgrow.output
    size := hgrow.size
    frame := fun k hk hne => hgrow.block k hk (fun e => by
      rcases hupd with ⟨h1, h2⟩ | ⟨id, gh, h1, h2, h3⟩
      · rw [h1] at e; cases e
      · exact hne id _ gh h1 h2 (by rw [h3, ← e]))
    cell := hcellro
    mono := fun _ _ h => .inl h
    rolt := fun k o h => by
      rcases h with h | ⟨h, _⟩
      · exact Nat.lt_of_lt_of_le (c.rolt k o h) hgrow.size
      · exact hlt' k h
    fresh := fun k o h => by
      rcases h with h | ⟨h, _⟩
      · exact .inl h
      · rcases hat with e | e
        · rw [e] at h
          rcases hupd with ⟨h1, h2⟩ | ⟨id, gh, h1, h2, h3⟩
          · rw [h1] at h; cases h
          · exact .inr (.inr ⟨id, _, gh, h1, h2, by rw [h3, h]⟩)
        · rw [e] at h; cases h; exact .inr (.inl (Nat.le_refl _))
    iold := fun id h => if_neg h
    inew := fun gh k h hk => by
      simp [setGh] at h
      subst h
      have hk : b' = some k := hk
      refine ⟨hlt' k hk, ?_⟩
      rcases hat with e | e
      · rw [e] at hk
        rcases hupd with ⟨h1, h2⟩ | ⟨id, gh, h1, h2, h3⟩
        · rw [h1] at hk; cases hk
        · exact .inr ⟨id, _, gh, h1, rfl, h2, by rw [h3, hk]⟩
      · rw [e] at hk; cases hk; exact .inl (Nat.le_refl _)
    nonew := fun h => by cases h
    upd := fun id o h => by
      rcases hupd with ⟨h1, h2⟩ | ⟨id', gh, h1, h2, h3⟩
      · rw [h2] at h; cases h
      · rw [h1] at h; cases h; trivial
    new := fun o h => by
      cases h
      intro _
      refine ⟨gh', xs ++ news, if_pos rfl, hown', fun g hg o ho hr => ?_⟩
      have hg : b' = some g := hg
      rcases hr with hr | ⟨_, hr⟩
      · exact hnotro g hg o ho hr
      · exact absurd ho (by show ¬ (l1.length + l2.length) * E.size t ≤ o; omega)
    val := .grow gh' t (l1 ++ l2) S.next (if_pos rfl) (by simp [gh']) rfl rfl hd' }⟩

theorem append_post_row (c : Ctx E S asm a w ι ro) (t : E.Ty) (T T' : TypeId) (ty : TypeId) (hT : P.underlying T = some (.slice (E.tid t))) (v : Value) (l1 l2 : List (E.Den t)) (xs : List Value) (u : Value) (news : List Value) (upd : Option (Nat × AObj E)) (b : Option Nat)
    (hown : (w.ownsRow 0 (E.tid t) (E.size t) v l1.length xs ∧ b = v.ownBlock) ∨ (l1.length = 0 ∧ xs = [] ∧ b = none ∧ ∃ ad, v = .slice ad 0 0)) (hxs : RowD E w ro t xs l1)
    (hro : ∀ g, b = some g → ∀ o, ¬ ro g o) (hs2 : Src P (E.size t) T' u l2.length news w) (hnd : RowD E w ro t news l2)
    (hb : (l1.length + l2.length) * E.bytes t ≤ 140737488355328) (hupd : b = none ∧ upd = none ∨ ∃ id gh, upd = some (id, .dead) ∧ ι id = some gh ∧ gh.blk = b) :
    ∃ v' w' ι', (Builtin.append_ #[T, T'] ty #[v, u]).run P w = .ok v' w' ∧ OpPost E w w' ι ι' ro ro S.next ⟨true, .row t (l1.length + l2.length) S.next, upd, some (.row t (l1 ++ l2))⟩ v' := by
  obtain ⟨i, z, hi, his, hib, hz, hzs⟩ := E.info_ok t
  have hbp := E.bytes_pos t
  have h63 : l1.length + l2.length ≤ maxLen := by
    have : l1.length + l2.length ≤ (l1.length + l2.length) * E.bytes t := Nat.le_mul_of_pos_right _ hbp
    unfold maxLen; omega
  obtain ⟨v', w', b', hrun, hown', hgrow, hat, hkept⟩ := run_append_gen (P := P) (w := w) T T' ty (E.tid t) i z hT hi hz (by rw [hzs, his]) v l1.length xs b (by rw [his]; exact hown) u l2.length news (by rw [his]; exact hs2) h63 (by rw [hib]; exact hb)
  rw [his] at hown'
  have hxl : xs.length = l1.length * E.size t := by
    rcases hown with h | ⟨h0, h1, _⟩
    · exact h.1.1
    · rw [h0, h1]; simp
  have hcellro : ∀ k o, ro k o → w'.cell? ⟨k, o, none⟩ = w.cell? ⟨k, o, none⟩ := by
    intro k o hr
    exact World.cell?_of_block (hgrow.block k (c.rolt k o hr) (fun e => hro k e.symm o hr))
  let gh' : Gh := ⟨v', l1.length + l2.length, E.tid t, E.size t, b'⟩
  have hlen : (l1 ++ l2).length = l1.length + l2.length := by simp
  have hrow' : RowD E w' ro t (xs ++ news) (l1 ++ l2) := (RowD.app hxl hxs hnd).mono (fun _ _ h => h) hcellro
  have hlt' : ∀ k, b' = some k → k < w'.heap.size := by
    intro k hk
    rcases hown' with ⟨h, rfl⟩ | ⟨_, _, h, _⟩
    · exact (h.lt k hk).2
    · rw [h] at hk; cases hk
  have hnotro : ∀ g, b' = some g → ∀ o, ¬ ro g o := by
    intro g hg o hr
    rcases hat with h | h
    · rw [h] at hg
      exact hro g hg o hr
    · rw [h] at hg
      cases hg
      exact absurd (c.rolt _ _ hr) (by omega)
  have hownT : OwnT w' gh' (xs ++ news) := hown'
  obtain ⟨ad', cap', hgv, had'⟩ := hownT.shape
  refine ⟨v', w', setGh ι S.next gh', hrun, {
    os := hgrow.os
    tape := hgrow.tape
    output := hgrow.output
    size := hgrow.size
    frame := fun k hk hne => hgrow.block k hk (fun e => by
      rcases hupd with ⟨h1, h2⟩ | ⟨id, gh, h1, h2, h3⟩
      · rw [h1] at e; cases e
      · exact hne id _ gh h1 h2 (by rw [h3, ← e]))
    cell := hcellro
    mono := fun _ _ h => h
    rolt := fun k o h => Nat.lt_of_lt_of_le (c.rolt k o h) hgrow.size
    fresh := fun k o h => .inl h
    iold := fun id h => if_neg h
    inew := fun gh k h hk => by
      simp [setGh] at h
      subst h
      have hk : b' = some k := hk
      refine ⟨hlt' k hk, ?_⟩
      rcases hat with e | e
      · rw [e] at hk
        rcases hupd with ⟨h1, h2⟩ | ⟨id, gh, h1, h2, h3⟩
        · rw [h1] at hk; cases hk
        · exact .inr ⟨id, _, gh, h1, rfl, h2, by rw [h3, hk]⟩
      · rw [e] at hk; cases hk; exact .inl (Nat.le_refl _)
    nonew := fun h => by cases h
    upd := fun id o h => by
      rcases hupd with ⟨h1, h2⟩ | ⟨id', gh, h1, h2, h3⟩
      · rw [h2] at h; cases h
      · rw [h1] at h; cases h; trivial
    new := fun o h => by
      cases h
      exact ⟨gh', xs ++ news, if_pos rfl, hlen.symm, rfl, rfl, hownT, hrow', hnotro⟩
    val := .row gh' t S.next ad' cap' (if_pos rfl) rfl rfl hgv had' }⟩
end
end Go.Proofs.YtfoflgciceckoaaGreatDoor.Mir
