/- The Mirror, part D: memory operations (boxes, loads, stores, slices, append). -/
import Derived.Test.YtfoflgciceckoaaGreatDoorMirC
import Derived.Deep.AppendSrc
namespace Go.Proofs.YtfoflgciceckoaaGreatDoor.Mir
open Go Go.RowKit

section
variable {P : Program} {E : Env P} {w : World} {ro : Nat → Nat → Prop} {ι : Nat → Option Gh}

theorem run_append_room_at (t tx ty e : TypeId) (i : TypeInfo) (ht : P.underlying t = some (.slice e)) (hi : P.info? e = some i) (g n cap : Nat) (cur : Array Value) (hg : w.heap[g]? = some (.cells cur e (0, 0)))
    (x : Value) (m : Nat) (news : List Value) (hs : Src P i.size tx x m news w) (hroom : n + m ≤ cap) (hfit : n * i.size + news.length ≤ cur.size) :
    (Builtin.append_ #[t, tx] ty #[.slice (some ⟨g, 0, none⟩) n cap, x]).run P w = .ok (.slice (some ⟨g, 0, none⟩) (n + m) cap) (w.setRow g (cur.toList.take (n * i.size) ++ news ++ cur.toList.drop (n * i.size + news.length)).toArray) := by
  have hst := run_storeCells_at P g (n * i.size) e news 0 cur w hg (by simpa using hfit) hs.one
  simp only [Nat.add_zero] at hst
  rcases hs.kind with ⟨e', hk⟩ | hk <;> simp [Builtin.append_, run_underlying ht, run_underlying hk, sizeOf, typeInfo, hi, hs.len, hroom, hs.cells, Addr.add_lit, hst]

/-- append keeps what was there: the elder row's cells read as before. -/
theorem run_append_kept (t tx ty e : TypeId) (i : TypeInfo) (z : Value) (ht : P.underlying t = some (.slice e)) (hi : P.info? e = some i) (hz : i.zero = some z) (hzs : z.cells.size = i.size)
    (v : Value) (n : Nat) (xs : List Value) (hown : w.ownsRow 0 e i.size v n xs) (x : Value) (m : Nat) (news : List Value) (hs : Src P i.size tx x m news w)
    (h63 : n + m ≤ maxLen) (hbytes : (n + m) * i.bytes ≤ 140737488355328) :
    ∃ v' w', (Builtin.append_ #[t, tx] ty #[v, x]).run P w = .ok v' w' ∧ w'.ownsRow 0 e i.size v' (n + m) (xs ++ news) ∧ w.grownBy w' v.ownBlock ∧
      (v'.ownBlock = v.ownBlock ∨ v'.ownBlock = some w.heap.size) ∧ ∀ g, v.ownBlock = some g → ∀ j u, xs[j]? = some u → w'.cell? ⟨g, j, none⟩ = some u := by
  have hsmall : n + m ≤ 9223372036854775807 := by simp only [maxLen] at h63; omega
  have hl := hs.newsLen
  have hlen : (xs ++ news).length = (n + m) * i.size := by rw [List.length_append, hown.1, hl, Nat.add_mul]
  have grown : ∀ (old : Nat), ∀ (row : Option Nat),
      (w.drew.alloc (.cells ((xs ++ news).toArray ++ Builtin.zeroCells z.cells (grownCap w (n + m) old e - (n + m))) e)).ownsRow 0 e i.size
        (.slice (some ⟨w.heap.size, 0, none⟩) (n + m) (grownCap w (n + m) old e)) (n + m) (xs ++ news) ∧
      w.grownBy (w.drew.alloc (.cells ((xs ++ news).toArray ++ Builtin.zeroCells z.cells (grownCap w (n + m) old e - (n + m))) e)) row := by
    intro old row
    have hge := grownCap_ge w (n + m) old e
    have hcm : grownCap w (n + m) old e ≤ maxLen := grownCap_le_maxLen w (n + m) old e h63
    refine ⟨⟨hlen, .inr ⟨w.heap.size, _, _, rfl, Nat.zero_le _, heap_alloc_new w.drew _, hge, hcm, ?_, ?_⟩⟩, ⟨rfl, rfl, rfl, by simp, fun k hk _ => heap_alloc_old w.drew _ hk⟩⟩
    · simp only [Array.size_append, List.size_toArray, size_zeroCells, hzs, hlen, ← Nat.add_mul]
      congr 1
      omega
    · simp only [Array.toList_append]
      rw [← hlen]
      exact List.take_left
  rcases hown.2 with ⟨rfl, rfl⟩ | ⟨g, cap, cur, rfl, hbg, hg, hnc, hcm, hcs, htake⟩
  · have hx : xs = [] := List.eq_nil_of_length_eq_zero (by simpa using hown.1)
    subst hx
    by_cases hm : m = 0
    · subst hm
      have hn : news = [] := List.eq_nil_of_length_eq_zero (by simpa using hl)
      subst hn
      refine ⟨.slice none 0 0, w, ?_, by simpa using hown, ⟨rfl, rfl, rfl, Nat.le_refl _, fun _ _ _ => rfl⟩, .inl rfl, fun g hg j u hu => by simp at hu⟩
      have hc := hs.cells
      have hlz := hs.len
      rcases hs.kind with ⟨e', hk⟩ | hk <;> simp [Builtin.append_, run_underlying ht, run_underlying hk, sizeOf, typeInfo, hi, hlz, hc]
    · have hb := hbytes
      simp only [Nat.zero_add] at hb
      have hr := run_append_grow_src (P := P) w t tx ty e i z ht hi hz none 0 0 [] (by simp [Builtin.firstCells]) x m news hs (by omega) (by omega) (growslice_fits (by omega) (by simpa using hb))
      have hgr := grown 0 (Value.ownBlock (.slice none 0 0))
      exact ⟨_, _, hr, hgr.1, hgr.2, .inr rfl, fun g hg => by simp [Value.ownBlock] at hg⟩
  · by_cases hroom : n + m ≤ cap
    · have hfit : n * i.size + news.length ≤ cur.size := by rw [hl, hcs, ← Nat.add_mul]; exact Nat.mul_le_mul_right _ hroom
      have hr := run_append_room_at t tx ty e i ht hi g n cap cur hg x m news hs hroom hfit
      refine ⟨_, _, hr, ⟨hlen, .inr ⟨g, cap, _, rfl, hbg, setRow_heap w g cur _ e _ hg, hroom, hcm, ?_, ?_⟩⟩, ⟨rfl, rfl, rfl, by simp, fun k _ hk => setRow_other w g k _ (fun e => hk (by simp [Value.ownBlock, e]))⟩, .inl rfl, fun g' hg' j u hu => ?_⟩
      · simp only [List.size_toArray, List.length_append, List.length_take, List.length_drop, Array.length_toList]
        omega
      · rw [htake, ← hlen]
        exact List.take_left
      · simp [Value.ownBlock] at hg'
        subst hg'
        rw [cell_setRow_same w g j cur _ e _ hg, htake]
        have hj : j < xs.length := (List.getElem?_eq_some_iff.1 hu).1
        simp [List.getElem?_append_left, hj]
        rw [List.getElem?_eq_getElem hj] at hu
        simpa using hu
    · have holds : ∀ j u, xs[j]? = some u → w.cell? ((⟨g, 0, none⟩ : Addr).add j) = some u := hown.cells (g := g) rfl
      have hr := run_append_grow_src (P := P) w t tx ty e i z ht hi hz (some ⟨g, 0, none⟩) n cap xs (run_firstCells_some (P := P) w.drew i.size n ⟨g, 0, none⟩ n cap xs hown.1 (by simpa using holds)) x m news hs (by omega) (by omega) (growslice_fits (by omega) hbytes)
      have hgr := grown cap (Value.ownBlock (.slice (some ⟨g, 0, none⟩) n cap))
      refine ⟨_, _, hr, hgr.1, hgr.2, .inr rfl, fun g' hg' j u hu => ?_⟩
      simp [Value.ownBlock] at hg'
      subst hg'
      have hlt : g < w.heap.size := (Array.getElem?_eq_some_iff.1 hg).1
      have := holds j u hu
      rw [add_none, Nat.zero_add] at this
      rw [← this]
      exact World.cell?_of_block (heap_alloc_old w.drew _ hlt)

/-- THE SAME for every owned row, one without room too. -/
theorem run_append_gen (t tx ty e : TypeId) (i : TypeInfo) (z : Value) (ht : P.underlying t = some (.slice e)) (hi : P.info? e = some i) (hz : i.zero = some z) (hzs : z.cells.size = i.size)
    (v : Value) (n : Nat) (xs : List Value) (b : Option Nat) (hown : (w.ownsRow 0 e i.size v n xs ∧ b = v.ownBlock) ∨ (n = 0 ∧ xs = [] ∧ b = none ∧ ∃ ad, v = .slice ad 0 0))
    (x : Value) (m : Nat) (news : List Value) (hs : Src P i.size tx x m news w)
    (h63 : n + m ≤ maxLen) (hbytes : (n + m) * i.bytes ≤ 140737488355328) :
    ∃ v' w' b', (Builtin.append_ #[t, tx] ty #[v, x]).run P w = .ok v' w' ∧ ((w'.ownsRow 0 e i.size v' (n + m) (xs ++ news) ∧ b' = v'.ownBlock) ∨ (n + m = 0 ∧ xs ++ news = [] ∧ b' = none ∧ ∃ ad, v' = .slice ad 0 0)) ∧
      w.grownBy w' b ∧ (b' = b ∨ b' = some w.heap.size) ∧ ∀ g, b = some g → ∀ j u, xs[j]? = some u → w'.cell? ⟨g, j, none⟩ = some u := by
  have hl := hs.newsLen
  rcases hown with ⟨hown, rfl⟩ | ⟨rfl, rfl, rfl, ad, rfl⟩
  · obtain ⟨v', w', h1, h2, h3, h4, h5⟩ := run_append_kept t tx ty e i z ht hi hz hzs v n xs hown x m news hs h63 hbytes
    exact ⟨v', w', _, h1, .inl ⟨h2, rfl⟩, h3, h4, h5⟩
  · cases ad with
    | none =>
      obtain ⟨v', w', h1, h2, h3, h4, h5⟩ := run_append_kept t tx ty e i z ht hi hz hzs (.slice none 0 0) 0 [] (World.ownsRow_nil w 0 e i.size) x m news hs h63 hbytes
      exact ⟨v', w', _, h1, .inl ⟨h2, rfl⟩, h3, h4, fun g hg => by cases hg⟩
    | some A =>
      by_cases hm : m = 0
      · subst hm
        have hn : news = [] := List.eq_nil_of_length_eq_zero (by simpa using hl)
        subst hn
        refine ⟨.slice (some A) 0 0, w, none, ?_, .inr ⟨rfl, rfl, rfl, _, rfl⟩, ⟨rfl, rfl, rfl, Nat.le_refl _, fun _ _ _ => rfl⟩, .inl rfl, fun g hg => by cases hg⟩
        have hc := hs.cells
        have hlz := hs.len
        rcases hs.kind with ⟨e', hk⟩ | hk <;> simp [Builtin.append_, run_underlying ht, run_underlying hk, sizeOf, typeInfo, hi, hlz, hc, storeCells]
      · have hr := run_append_grow_src (P := P) w t tx ty e i z ht hi hz (some A) 0 0 [] (run_firstCells_some (P := P) w.drew i.size 0 A 0 0 [] (by simp) (fun j v h => by simp at h)) x m news hs (by omega) (by simp only [maxLen] at h63; omega) (growslice_fits (by omega) hbytes)
        refine ⟨_, _, some w.heap.size, hr, .inl ⟨⟨by rw [List.nil_append, Nat.zero_add]; exact hl, .inr ⟨w.heap.size, _, _, rfl, Nat.zero_le _, heap_alloc_new w.drew _, grownCap_ge w (0 + m) 0 e, grownCap_le_maxLen w (0 + m) 0 e h63, ?_, ?_⟩⟩, rfl⟩, ⟨rfl, rfl, rfl, by simp, fun k hk _ => heap_alloc_old w.drew _ hk⟩, .inr rfl, fun g hg => by cases hg⟩
        · have hge := grownCap_ge w (0 + m) 0 e
          simp only [Array.size_append, List.size_toArray, size_zeroCells, hzs, hl, ← Nat.add_mul, List.nil_append, Nat.zero_add] at hge ⊢
          congr 1
          omega
        · simp only [Array.toList_append, List.nil_append, Nat.zero_add]
          rw [← hl]
          exact List.take_left

structure Ctx (E : Env P) (S : ASt E) (asm : List (Nat × Bool)) (a : Act) (w : World) (ι : Nat → Option Gh) (ro : Nat → Nat → Prop) : Prop where
  tm : TmOk E w ro ι a S.tmps
  asm : AsmOk a asm
  rolt : ∀ k o, ro k o → k < w.heap.size
  objs : ∀ (id : Nat) o, look S.objs id = some o → ObjOk E w ro ι id o
  fresh : ι S.next = none

section
variable {S : ASt E} {asm : List (Nat × Bool)} {a : Act}

theorem Ctx.get (c : Ctx E S asm a w ι ro) (x : Operand) : Rep E w ro ι (a.eval x) (getA S.tmps asm x) := getA_rep c.tm c.asm x

theorem Ctx.pure (c : Ctx E S asm a w ι ro) {o : Oper} {val : Value} {x : AV E} (hr : (execOp a.eval o).run P w = .ok (.value val) w) (hv : Rep E w ro ι val x) : OpDone E o a w ι ro S.next (.pure x) :=
  .pure c.rolt c.fresh hr rfl rfl hv

/-- The ghost of a new object. -/
def setGh (ι : Nat → Option Gh) (id : Nat) (gh : Gh) : Nat → Option Gh := fun i => if i = id then some gh else ι i

theorem setGh_ext (ι : Nat → Option Gh) (id : Nat) (gh : Gh) (h : ι id = none) : ∀ i g, ι i = some g → setGh ι id gh i = some g := by
  intro i g hi
  unfold setGh
  by_cases e : i = id
  · subst e; rw [h] at hi; cases hi
  · rw [if_neg e]; exact hi

theorem cell_alloc (w : World) (ob : Obj) {k : Nat} (h : k < w.heap.size) (o : Nat) : (w.alloc ob).cell? ⟨k, o, none⟩ = w.cell? ⟨k, o, none⟩ :=
  World.cell?_of_block (heap_alloc_old w ob h)

/-- A new box. -/
theorem OpPost.box (c : Ctx E S asm a w ι ro) (vs : Array Value) (T : TypeId) (cs : List (AV E)) (hs : vs.size = cs.length) (hv : ∀ (j : Nat) v x, vs[j]? = some v → cs[j]? = some x → v.oneCell' = true ∧ Rep E w ro ι v x) :
    OpPost E w (w.alloc (.cells vs T)) ι (setGh ι S.next ⟨.pointer (some ⟨w.heap.size, 0, none⟩), 0, 0, 0, some w.heap.size⟩) ro ro S.next ⟨true, .ptr S.next 0, none, some (.box cs)⟩ (.pointer (some ⟨w.heap.size, 0, none⟩)) where
  os := rfl
  tape := rfl
  output := rfl
  size := by simp
  frame := fun k hk _ => heap_alloc_old w _ hk
  cell := fun k o h => cell_alloc w _ (c.rolt k o h) o
  mono := fun _ _ h => h
  rolt := fun k o h => by have := c.rolt k o h; simp; omega
  fresh := fun _ _ h => .inl h
  iold := fun id h => if_neg h
  inew := fun gh k h hk => by
    simp [setGh] at h
    subst h
    simp at hk
    subst hk
    exact ⟨by simp, .inl (Nat.le_refl _)⟩
  nonew := fun h => by cases h
  upd := fun id o h => by cases h
  new := fun o h => by
    cases h
    refine ⟨_, w.heap.size, vs, T, if_pos rfl, rfl, rfl, heap_alloc_new w _, hs, fun j v x h1 h2 => ?_, fun o h => by have := c.rolt _ o h; omega⟩
    obtain ⟨g1, g2⟩ := hv j v x h1 h2
    exact ⟨g1, g2.mono (fun _ _ h => h) (fun k o h => cell_alloc w _ (c.rolt k o h) o) (setGh_ext _ _ _ c.fresh)⟩
  val := .ptr _ _ _ _ (if_pos rfl) rfl

theorem run_zero {T : TypeId} {cs : List (AV E)} (h : zeroCellsA T = some cs) : ∃ i z, P.info? T = some i ∧ i.zero = some z ∧ cs = z.cells.toList.map constS ∧ (zeroValue T).run P w = .ok z w := by
  unfold zeroCellsA at h
  cases hi : P.info? T with
  | none => rw [hi] at h; cases h
  | some i =>
    cases hz : i.zero with
    | none => rw [hi] at h; simp only [hz] at h; cases h
    | some z =>
      rw [hi] at h; simp only [hz] at h
      cases h
      exact ⟨i, z, rfl, hz, rfl, by simp [zeroValue, typeInfo, hi, hz]⟩

theorem constS_one {v : Value} {c : AV E} (h : constS v = c) (hc : cellOk c = true) : v.oneCell' = true := by
  subst h
  cases v <;> first | rfl | cases hc

theorem done_alloc (c : Ctx E S asm a w ι ro) {o : Oper} {T : TypeId} (ho : o.op = .alloc T) {cs : List (AV E)} (h : zeroCellsA T = some cs) (hk : allOk cs = true) :
    OpDone E o a w ι ro S.next ⟨true, .ptr S.next 0, none, some (.box cs)⟩ := by
  obtain ⟨i, z, hi, hz, hcs, hrun⟩ := run_zero (w := w) h
  refine .inl ⟨_, _, _, _, ?_, OpPost.box c z.cells T cs (by rw [hcs]; simp) (fun j v x h1 h2 => ?_)⟩
  · simp [execOp, ho, Instr.alloc, hrun, newVar, newRow]
  · have h2' := h2
    rw [hcs, List.getElem?_map] at h2
    have : z.cells.toList[j]? = some v := by simpa using h1
    rw [this] at h2
    simp at h2
    subst h2
    exact ⟨constS_one rfl (allOk_at hk j _ h2'), constS_rep v⟩

theorem done_box (c : Ctx E S asm a w ι ro) {o : Oper} {T : TypeId} {x : Operand} (ho : o.op = .box T x) {cs : List (AV E)} (h : cellsA (getA S.tmps asm x) = some cs) :
    OpDone E o a w ι ro S.next ⟨true, .ptr S.next 0, none, some (.box cs)⟩ := by
  obtain ⟨h1, h2⟩ := cellsA_rep (c.get x) h
  refine .inl ⟨_, _, _, _, ?_, OpPost.box c (a.eval x).cells T cs h1 h2⟩
  simp [execOp, ho, Instr.box, newVar, newRow]

theorem run_load_done {x : AV E} {v : Value} {T : TypeId} {r : AV E} (hobjs : ∀ (id : Nat) o, look S.objs id = some o → ObjOk E w ro ι id o) (hv : Rep E w ro ι v x) (h : evLoad S.objs T x = some r) :
    ∃ val, (Instr.loadAt T v).run P w = .ok val w ∧ Rep E w ro ι val r := by
  unfold evLoad at h
  cases hv with
  | ptr gh g id off hi hgv =>
    simp only at h
    cases hob : look S.objs id with
    | none => rw [hob] at h; cases h
    | some ob =>
      cases ob with
      | dead => rw [hob] at h; cases h
      | tail l => rw [hob] at h; cases h
      | row _ _ => rw [hob] at h; cases h
      | box cs =>
        rw [hob] at h
        obtain ⟨gh', g', vs, e, hi', hgv', _, hh, hsz, hcell, _⟩ := hobjs id _ hob
        rw [hi] at hi'
        cases hi'
        rw [hgv] at hgv'
        cases hgv'
        obtain ⟨val, hrun, hr⟩ := run_loadVar_rep (P := P) (g := g) (off := off) (w := w) (ro := ro) (ι := ι) (cs := cs.drop off) (fun j c hc => by
          rw [List.getElem?_drop] at hc
          have hlt : off + j < vs.size := by rw [hsz]; exact (List.getElem?_eq_some_iff.1 hc).1
          have hvj := Array.getElem?_eq_getElem hlt
          exact ⟨_, by rw [cell_of_row w g _ vs e _ hh]; exact hvj, (hcell _ _ _ hvj hc).2⟩) h
        exact ⟨val, by simp [Instr.loadAt, Instr.sureAddr, hrun], hr⟩
  | pelt g off f cs h1 h2 =>
    obtain ⟨val, hrun, hr⟩ := run_loadVar_rep (P := P) (g := g) (off := off) (w := w) (ro := ro) (ι := ι) (cs := cs.map .d) (fun j c hc => by
      rw [List.getElem?_map] at hc
      cases he : cs[j]? with
      | none => rw [he] at hc; cases hc
      | some e =>
        rw [he] at hc
        cases hc
        exact ⟨_, (h1 j e he).2, .d _ _ (h2 j e he)⟩) h
    exact ⟨val, by simp [Instr.loadAt, Instr.sureAddr, hrun], hr⟩
  | elt gh g id i off cap hi hgv hlt =>
    simp only at h
    cases hob : look S.objs id with
    | none => rw [hob] at h; cases h
    | some ob =>
      cases ob with
      | dead => rw [hob] at h; cases h
      | tail l => rw [hob] at h; cases h
      | box cs => rw [hob] at h; cases h
      | row t l =>
        rw [hob] at h
        obtain ⟨gh', xs, hi', hn, he, hsz, hown, hrow, hnro⟩ := hobjs id _ hob
        rw [hi] at hi'
        cases hi'
        have hil : i < l.length := by omega
        have hget : l[i]? = some (l.getD i (E.dflt t)) := by rw [List.getD, List.getElem?_eq_getElem hil]; rfl
        have hownR : w.ownsRow 0 gh.e gh.sz gh.v gh.n xs := by
          rcases hown with h | h
          · exact h.1
          · omega
        obtain ⟨val, hrun, hr⟩ := run_loadVar_rep (P := P) (g := g) (off := i * gh.sz + off) (w := w) (ro := ro) (ι := ι) (cs := ((E.cells t (l.getD i (E.dflt t))).drop off).map .d) (fun j c hc => by
          rw [List.getElem?_map, List.getElem?_drop] at hc
          cases he : (E.cells t (l.getD i (E.dflt t)))[off + j]? with
          | none => rw [he] at hc; cases hc
          | some cc =>
            rw [he] at hc
            cases hc
            obtain ⟨u, hu, hd⟩ := hrow i _ (off + j) cc hget he
            refine ⟨u, ?_, .d _ _ hd⟩
            have := hownR.cells (g := g) (by rw [hgv]; rfl) _ _ hu
            rw [add_none, Nat.zero_add] at this
            rw [hsz, Nat.add_assoc]
            exact this) h
        exact ⟨val, by simp [Instr.loadAt, Instr.sureAddr, hrun], hr⟩
  | _ => cases h

theorem done_load (c : Ctx E S asm a w ι ro) {o : Oper} {T : TypeId} {x : Operand} (ho : o.op = .load T x) {r : AV E} (h : evLoad S.objs T (getA S.tmps asm x) = some r) :
    OpDone E o a w ι ro S.next (.pure r) := by
  obtain ⟨val, hrun, hr⟩ := run_load_done c.objs (c.get x) h
  exact c.pure (by simp [execOp, ho, hrun]) hr

/-- A store into a row of its own. -/
theorem done_elt (c : Ctx E S asm a w ι ro) {o : Oper} {T : TypeId} {x y : Operand} (ho : o.op = .store T x y) {gh : Gh} {g id i off cap n : Nat} {t : E.Ty} {l : List (E.Den t)} {vy : Value} {ti : TypeInfo} {ds : List (DVal E.Den)} {x' : E.Den t}
    (hvx : a.eval x = .pointer (some ⟨g, i * gh.sz + off, none⟩)) (hvy : a.eval y = vy) (hi : ι id = some gh) (hgv : gh.v = .slice (some ⟨g, 0, none⟩) gh.n cap) (hlt : i < gh.n) (hob : look S.objs id = some (.row t l))
    (hinfo : P.info? T = some ti) (hin : ti.size = n) (hlen : vy.cells.size = n) (hle : off + n ≤ E.size t) (hl : ds.length = n) (hds : ∀ (j : Nat) v x, vy.cells[j]? = some v → ds[j]? = some x → DRep E w ro v x)
    (hfold : E.fold t ((E.cells t (l.getD i (E.dflt t))).take off ++ ds ++ (E.cells t (l.getD i (E.dflt t))).drop (off + n)) = some x') :
    OpDone E o a w ι ro S.next ⟨true, .any, some (id, .row t (l.set i x')), none⟩ := by
  obtain ⟨gh', xs, hi', hgn, he, hsz, hown, hrow, hnro⟩ := c.objs id _ hob
  rw [hi] at hi'
  cases hi'
  have hil : i < l.length := by omega
  have hget : l[i]? = some (l.getD i (E.dflt t)) := by rw [List.getD, List.getElem?_eq_getElem hil]; rfl
  generalize hold : l.getD i (E.dflt t) = old at hget hfold
  have hpos := E.size_pos t
  have hownR : w.ownsRow 0 gh.e gh.sz gh.v gh.n xs ∧ gh.blk = gh.v.ownBlock := by
    rcases hown with h | h
    · exact h
    · omega
  obtain ⟨⟨hxl, hrowO⟩, hblk⟩ := hownR
  have hblk : gh.blk = some g := by rw [hblk, hgv]; rfl
  rcases hrowO with ⟨h0, _⟩ | ⟨g', cap', cur, hv', hb, hh, hnc, hcm, hcs, htake⟩
  · rw [hgv] at h0; cases h0
  · rw [hgv] at hv'
    cases hv'
    have hmul : i * gh.sz + gh.sz ≤ gh.n * gh.sz := by
      have := Nat.mul_le_mul_right gh.sz (show i + 1 ≤ gh.n by omega)
      rwa [Nat.succ_mul] at this
    have hmul2 : gh.n * gh.sz ≤ cap * gh.sz := Nat.mul_le_mul_right _ hnc
    have hcl := E.cells_len t old
    have hdone := hds
    have hone : ∀ v ∈ vy.cells.toList, v.oneCell' = true := by
      intro v hv
      obtain ⟨j, hj⟩ := List.getElem?_of_mem hv
      have hj' : vy.cells[j]? = some v := by simpa using hj
      have hjl : j < ds.length := by rw [hl, ← hlen]; exact (Array.getElem?_eq_some_iff.1 hj').1
      exact (hds j v _ hj' (List.getElem?_eq_getElem hjl)).one
    have hfit : i * gh.sz + off + vy.cells.toList.length ≤ cur.size := by simp only [Array.length_toList, hlen, hcs]; omega
    have hrun := run_storeCells_at P g (i * gh.sz + off) gh.e vy.cells.toList 0 cur w hh (by simpa using hfit) hone
    simp only [Nat.add_zero] at hrun
    generalize hat : i * gh.sz + off = q at *
    generalize hnew : (cur.toList.take q ++ vy.cells.toList ++ cur.toList.drop (q + vy.cells.toList.length)) = new at hrun
    have hnewl : new.length = cur.size := by
      rw [← hnew]
      simp only [List.length_append, List.length_take, List.length_drop, Array.length_toList] at hfit ⊢
      omega
    have hcellro : ∀ k o, ro k o → (w.setRow g new.toArray).cell? ⟨k, o, none⟩ = w.cell? ⟨k, o, none⟩ := by
      intro k o hro
      exact World.cell?_of_block (setRow_other w g k _ (fun e => hnro g hblk o (by rw [← e]; exact hro)))
    have hmono : ∀ (v : Value) (x : DVal E.Den), DRep E w ro v x → DRep E (w.setRow g new.toArray) ro v x := fun v x h => h.mono (fun _ _ h => h) hcellro
    refine .inr (.inl ⟨w.setRow g new.toArray, ι, ro, ?_, ?_⟩)
    · have e1 : vy.cells.size = ti.size := by omega
      simp [execOp, ho, hvx, hvy, Instr.storeAt, Instr.sureAddr, storeVar, run_sizeOf hinfo, e1, hrun]
    · exact {
        os := rfl
        tape := rfl
        output := rfl
        size := by simp [World.setRow]
        frame := fun k hk hne => setRow_other w g k _ (fun e => hne id _ gh rfl hi (by rw [hblk, e]))
        cell := hcellro
        mono := fun _ _ h => h
        rolt := fun k o h => by have := c.rolt k o h; simp [World.setRow]; exact this
        fresh := fun _ _ h => .inl h
        iold := fun _ _ => rfl
        inew := fun gh k h => by rw [c.fresh] at h; cases h
        nonew := fun _ => rfl
        upd := fun id' o' h => by
          cases h
          refine ⟨gh, new.take (gh.n * gh.sz), hi, by rw [List.length_set]; exact hgn, he, hsz, .inl ⟨⟨by rw [List.length_take, hnewl, hcs]; exact Nat.min_eq_left hmul2, .inr ⟨g, cap, new.toArray, hgv, Nat.zero_le _, setRow_heap w g cur _ _ _ hh, hnc, hcm, by simp [hnewl, hcs], by simp⟩⟩, by rw [hblk, hgv]; rfl⟩, ?_, fun g' hg' o ho => hnro g' hg' o ho⟩
          -- what the row's cells read as
          have hnewat : ∀ p, p < gh.n * gh.sz → (new.take (gh.n * gh.sz))[p]? = if q ≤ p ∧ p < q + n then vy.cells.toList[p - q]? else xs[p]? := by
            intro p hp
            rw [List.getElem?_take_of_lt hp, ← hnew]
            have e1 : (cur.toList.take q).length = q := by simp only [List.length_take, Array.length_toList]; simp only [Array.length_toList] at hfit; omega
            have hxp : xs[p]? = cur.toList[p]? := by rw [← htake, List.getElem?_take_of_lt hp]
            rcases Nat.lt_or_ge p q with hpq | hpq
            · rw [if_neg (by omega), List.append_assoc, List.getElem?_append_left (by omega), List.getElem?_take_of_lt hpq, hxp]
            · rcases Nat.lt_or_ge p (q + n) with hpn | hpn
              · rw [if_pos ⟨hpq, hpn⟩, List.append_assoc, List.getElem?_append_right (by omega), List.getElem?_append_left (by simp only [Array.length_toList]; omega), e1]
              · rw [if_neg (by omega), List.getElem?_append_right (by simp only [List.length_append, Array.length_toList]; omega), List.getElem?_drop, hxp]
                congr 1
                simp only [List.length_append, Array.length_toList, e1]
                omega
          intro i' x j cc hx hc
          have hj : j < E.size t := by rw [← E.cells_len t x]; exact (List.getElem?_eq_some_iff.1 hc).1
          have hi'l : i' < l.length := by have := (List.getElem?_eq_some_iff.1 hx).1; simpa using this
          have hp : i' * E.size t + j < gh.n * gh.sz := by
            rw [hsz, hgn]
            have := Nat.mul_le_mul_right (E.size t) (show i' + 1 ≤ l.length by omega)
            rw [Nat.succ_mul] at this
            omega
          rw [hnewat _ hp]
          by_cases hii : i' = i
          · subst hii
            rw [List.getElem?_set_self hil] at hx
            cases hx
            have hcs' := E.fold_ok t _ _ hfold
            -- the cell as the row has it now
            have hcell : ∀ c0, ((E.cells t old).take off ++ ds ++ (E.cells t old).drop (off + n))[j]? = some c0 → ∃ u, (if q ≤ i' * E.size t + j ∧ i' * E.size t + j < q + n then vy.cells.toList[i' * E.size t + j - q]? else xs[i' * E.size t + j]?) = some u ∧ DRep E w ro u c0 := by
              intro c0 hc0
              have e1 : ((E.cells t old).take off).length = off := by simp only [List.length_take]; omega
              have hq : q = i' * E.size t + off := by rw [← hat, hsz]
              rcases Nat.lt_or_ge j off with hjo | hjo
              · rw [if_neg (by omega)]
                rw [List.append_assoc, List.getElem?_append_left (by omega), List.getElem?_take_of_lt hjo] at hc0
                exact hrow i' old j c0 hget hc0
              · rcases Nat.lt_or_ge j (off + n) with hjn | hjn
                · rw [if_pos (by omega)]
                  rw [List.append_assoc, List.getElem?_append_right (by omega), List.getElem?_append_left (by omega), e1] at hc0
                  have e2 : i' * E.size t + j - q = j - off := by omega
                  rw [e2]
                  have hlt2 : j - off < vy.cells.size := by omega
                  have hv := Array.getElem?_eq_getElem hlt2
                  exact ⟨vy.cells[j - off], by simp, hds _ _ _ hv hc0⟩
                · rw [if_neg (by omega)]
                  rw [List.getElem?_append_right (by simp only [List.length_append]; omega), List.getElem?_drop] at hc0
                  refine hrow i' old j c0 hget ?_
                  rw [← hc0]
                  congr 1
                  simp only [List.length_append, e1]
                  omega
            have hjl : j < ((E.cells t old).take off ++ ds ++ (E.cells t old).drop (off + n)).length := by rw [hcs'.len, E.cells_len]; exact hj
            obtain ⟨u, hu, hdr⟩ := hcell _ (List.getElem?_eq_getElem hjl)
            exact ⟨u, hu, hmono _ _ ((hcs'.at_ j _ cc (List.getElem?_eq_getElem hjl) hc).rep hdr)⟩
          · rw [List.getElem?_set_ne (fun e => hii e.symm)] at hx
            have hout : ¬ (q ≤ i' * E.size t + j ∧ i' * E.size t + j < q + n) := by
              rw [← hat, hsz]
              rcases Nat.lt_or_ge i' i with h | h
              · have := Nat.mul_le_mul_right (E.size t) (show i' + 1 ≤ i by omega)
                rw [Nat.succ_mul] at this
                omega
              · have := Nat.mul_le_mul_right (E.size t) (show i + 1 ≤ i' by omega)
                rw [Nat.succ_mul] at this
                omega
            rw [if_neg hout]
            obtain ⟨u, hu, hdr⟩ := hrow i' x j cc hx hc
            exact ⟨u, hu, hmono _ _ hdr⟩
        new := fun o h => by cases h
        val := .any _ }

theorem done_store (c : Ctx E S asm a w ι ro) {o : Oper} {T : TypeId} {x y : Operand} (ho : o.op = .store T x y) {u : Nat × AObj E} (h : evStore S.objs T (getA S.tmps asm x) (getA S.tmps asm y) = some u) :
    OpDone E o a w ι ro S.next ⟨true, .any, some u, none⟩ := by
  unfold evStore at h
  have hx := c.get x
  generalize getA S.tmps asm x = X at h hx
  generalize hvx : a.eval x = vx at hx
  cases hx with
  | ptr gh g id off hi hgv =>
    simp only at h
    cases hob : look S.objs id with
    | none => rw [hob] at h; cases h
    | some ob =>
      cases ob with
      | dead => rw [hob] at h; cases h
      | tail l => rw [hob] at h; cases h
      | row _ _ => rw [hob] at h; cases h
      | box cs =>
        rw [hob] at h
        simp only at h
        cases hvs : cellsA (getA S.tmps asm y) with
        | none => rw [hvs] at h; cases h
        | some vs =>
          cases hn : sizeT P T with
          | none => rw [hvs, hn] at h; cases h
          | some n =>
            rw [hvs, hn] at h
            simp only at h
            split at h
            · rename_i hcond
              obtain ⟨hl, hle, hok⟩ := hcond
              cases h
              obtain ⟨i, d, hinfo, hd, hin⟩ := sizeT_inv hn
              obtain ⟨gh', g', row, e, hi', hgv', hblk, hh, hsz, hcell, hnro⟩ := c.objs id _ hob
              rw [hi] at hi'
              cases hi'
              rw [hgv] at hgv'
              cases hgv'
              obtain ⟨h1, h2⟩ := cellsA_rep (c.get y) hvs
              generalize hvy : a.eval y = vy at *
              have hlen : vy.cells.toList.length = n := by simp; omega
              have hlen' : vy.cells.size = n := by omega
              have hone : ∀ v ∈ vy.cells.toList, v.oneCell' = true := by
                intro v hv
                obtain ⟨j, hj⟩ := List.getElem?_of_mem hv
                have hj' : vy.cells[j]? = some v := by simpa using hj
                have hjl : j < vs.length := by rw [← h1]; exact (Array.getElem?_eq_some_iff.1 hj').1
                exact (h2 j v _ hj' (List.getElem?_eq_getElem hjl)).1
              have hrun := run_storeCells_at P g off e vy.cells.toList 0 row w hh (by rw [hlen]; omega) hone
              simp only [Nat.add_zero] at hrun
              generalize hnew : (row.toList.take off ++ vy.cells.toList ++ row.toList.drop (off + vy.cells.toList.length)) = new at hrun
              have hnewl : new.length = row.size := by
                rw [← hnew]
                simp only [List.length_append, List.length_take, List.length_drop, Array.length_toList]
                omega
              have hcellro : ∀ k o, ro k o → (w.setRow g new.toArray).cell? ⟨k, o, none⟩ = w.cell? ⟨k, o, none⟩ := by
                intro k o hro
                exact World.cell?_of_block (setRow_other w g k _ (fun e => by subst e; exact hnro o hro))
              refine .inr (.inl ⟨w.setRow g new.toArray, ι, ro, ?_, ?_⟩)
              · simp [execOp, ho, hvx, hvy, Instr.storeAt, Instr.sureAddr, storeVar, run_sizeOf hinfo, hlen', hin, hrun]
              · exact {
                  os := rfl
                  tape := rfl
                  output := rfl
                  size := by simp [World.setRow]
                  frame := fun k hk hne => setRow_other w g k _ (fun e => hne id _ gh rfl hi (by rw [hblk, e]))
                  cell := hcellro
                  mono := fun _ _ h => h
                  rolt := fun k o h => by have := c.rolt k o h; simp [World.setRow]; exact this
                  fresh := fun _ _ h => .inl h
                  iold := fun _ _ => rfl
                  inew := fun gh k h => by rw [c.fresh] at h; cases h
                  nonew := fun _ => rfl
                  upd := fun id' o' h => by
                    cases h
                    refine ⟨gh, g, new.toArray, e, hi, hgv, hblk, setRow_heap w g row _ e _ hh, by simp [hnewl, hsz, hl]; omega, fun j v x hv hx => ?_, hnro⟩
                    have hv' : new[j]? = some v := by simpa using hv
                    rw [← hnew] at hv'
                    have mono := fun (v : Value) (x : AV E) (h : Rep E w ro ι v x) => h.mono (w' := w.setRow g new.toArray) (fun _ _ h => h) hcellro (fun _ _ h => h)
                    rcases Nat.lt_or_ge j off with hjo | hjo
                    · rw [List.append_assoc, List.getElem?_append_left (by simp; omega), List.getElem?_take_of_lt hjo] at hv'
                      rw [List.append_assoc, List.getElem?_append_left (by simp; omega), List.getElem?_take_of_lt hjo] at hx
                      have := hcell j v x (by simpa using hv') hx
                      exact ⟨this.1, mono _ _ this.2⟩
                    · rcases Nat.lt_or_ge j (off + n) with hjn | hjn
                      · rw [List.append_assoc, List.getElem?_append_right (by simp; omega), List.getElem?_append_left (by simp; omega)] at hv'
                        rw [List.append_assoc, List.getElem?_append_right (by simp; omega), List.getElem?_append_left (by simp; omega)] at hx
                        have e1 : (row.toList.take off).length = off := by simp; omega
                        have e2 : (cs.take off).length = off := by simp; omega
                        rw [e1] at hv'
                        rw [e2] at hx
                        have := h2 (j - off) v x (by simpa using hv') hx
                        exact ⟨this.1, mono _ _ this.2⟩
                      · have e1 : (row.toList.take off ++ vy.cells.toList).length = off + n := by simp; omega
                        have e2 : (cs.take off ++ vs).length = off + n := by simp; omega
                        rw [List.getElem?_append_right (by omega), e1, List.getElem?_drop] at hv'
                        rw [List.getElem?_append_right (by omega), e2, List.getElem?_drop] at hx
                        rw [hlen] at hv'
                        have := hcell _ v x (by simpa using hv') hx
                        exact ⟨this.1, mono _ _ this.2⟩
                  new := fun o h => by cases h
                  val := .any _ }
            · cases h
  | elt gh g id i off cap hi hgv hlt =>
    simp only at h
    cases hob : look S.objs id with
    | none => rw [hob] at h; cases h
    | some ob =>
      cases ob with
      | dead => rw [hob] at h; cases h
      | tail l => rw [hob] at h; cases h
      | box cs => rw [hob] at h; cases h
      | row t l =>
        rw [hob] at h
        simp only at h
        cases hvs : cellsA (getA S.tmps asm y) with
        | none => rw [hvs] at h; cases h
        | some vs =>
          cases hn : sizeT P T with
          | none => rw [hvs, hn] at h; cases h
          | some n =>
            rw [hvs, hn] at h
            simp only at h
            cases hds : toDs vs with
            | none => rw [hds] at h; cases h
            | some ds =>
            rw [hds] at h
            simp only at h
            split at h
            · rename_i hcond
              obtain ⟨hl, hle⟩ := hcond
              split at h
              · rename_i x' hfold
                cases h
                obtain ⟨ti, d, hinfo, hd, hin⟩ := sizeT_inv hn
                obtain ⟨h1, h2⟩ := cellsA_rep (c.get y) hvs
                generalize hvy : a.eval y = vy at *
                have hdl := toDs_len hds
                have hlen : vy.cells.toList.length = n := by simp; omega
                have hlen' : vy.cells.size = n := by omega
                exact done_elt c ho hvx hvy hi hgv hlt hob hinfo hin hlen' hle hl (fun j v x hv hx => by
                  have hj : j < vs.length := by rw [← hdl]; exact (List.getElem?_eq_some_iff.1 hx).1
                  have hvj := List.getElem?_eq_getElem hj
                  exact toD_rep (h2 j v _ hv hvj).2 (toDs_at hds j _ x hvj hx)) hfold
              · cases h
            · cases h
  | _ => cases h
end
end
end Go.Proofs.YtfoflgciceckoaaGreatDoor.Mir
