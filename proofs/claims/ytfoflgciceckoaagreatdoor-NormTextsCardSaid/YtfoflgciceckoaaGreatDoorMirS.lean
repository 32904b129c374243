/- The Mirror, part S: what a law is handed reads as typed values. -/
import Derived.Test.YtfoflgciceckoaaGreatDoorMirQ
import Derived.Deep.Slices
import Derived.ChangeSame
import Derived.ChangeArms
namespace Go.Proofs.YtfoflgciceckoaaGreatDoor.Mir
open Go Go.RowKit Go.Deep

def below (w : World) : Nat → Nat → Prop := fun k _ => k < w.heap.size

section
variable {P : Program} {E : Env P}

/-- What reads at a type number has cells of this kind. -/
def Opens (E : Env P) (T : TypeId) (R : List (DVal E.Den) → Prop) : Prop :=
  ∀ {H : Type} (enc : TypeId × Value → H) (w : World) (base : Nat) (spare : Nat → Bool) (held : Bool) (fuel : Nat) (cs : List Value) (x : DataW H × List MemPlace), DataW.trod enc P w base spare held fuel T cs = some x →
    ∃ ds, R ds ∧ cs.length = ds.length ∧ ∀ (j : Nat) v d, cs[j]? = some v → ds[j]? = some d → DRep E w (below w) v d

/-- What reads at a type has that type's cells. -/
def OpensT (E : Env P) (t : E.Ty) : Prop := Opens E (E.tid t) fun ds => ∃ x, ds = E.cells t x

theorem one_cell {w : World} {v : Value} {d : DVal E.Den} (h : DRep E w (below w) v d) : ∀ (j : Nat) u e, [v][j]? = some u → [d][j]? = some e → DRep E w (below w) u e := by
  intro j u e hu he
  cases j with
  | zero => simp at hu he; subst hu; subst he; exact h
  | succ j => simp at hu

theorem opens_int {T : TypeId} {k : IntKind} (hT : P.underlying T = some (.int k)) : Opens E T fun ds => ∃ n, ds = [.int k n] := by
  intro H enc w base spare held fuel cs x h
  obtain ⟨n, rfl, _, _⟩ := DataW.trod_int hT h
  exact ⟨[.int k n], ⟨n, rfl⟩, rfl, one_cell (.int k n)⟩

theorem opens_bool {T : TypeId} (hT : P.underlying T = some .bool) : Opens E T fun ds => ∃ b, ds = [.bool b] := by
  intro H enc w base spare held fuel cs x h
  obtain ⟨b, rfl, _⟩ := DataW.trod_bool hT h
  exact ⟨[.bool b], ⟨b, rfl⟩, rfl, one_cell (.bool b)⟩

theorem opens_str {T : TypeId} (hT : P.underlying T = some .string) : Opens E T fun ds => ∃ s : List UInt8, ds = [.str s] ∧ s.length ≤ maxLen := by
  intro H enc w base spare held fuel cs x h
  obtain ⟨s, rfl, _, hs⟩ := DataW.trod_string hT h
  refine ⟨[.str s.data.toList], ⟨_, rfl, by rw [Array.length_toList]; exact hs⟩, rfl, one_cell ?_⟩
  have := DRep.str (E := E) (w := w) (ro := below w) s.data.toList
  simpa using this

theorem cell_in {w : World} {a : Addr} {u : Value} (h : w.cell? a = some u) : a.block < w.heap.size := by
  rcases Nat.lt_or_ge a.block w.heap.size with hl | hl
  · exact hl
  · unfold World.cell? at h
    rw [Array.getElem?_eq_none hl] at h
    cases h

theorem opens_slice {T : TypeId} {t : E.Ty} (hT : P.underlying T = some (.slice (E.tid t))) (ht : OpensT E t) (hC : P.cellsOf (E.tid t) = E.size t) : Opens E T fun ds => ∃ l, ds = [.slice t l] := by
  intro H enc w base spare held fuel cs x h
  rcases open_slice hT h with ⟨rfl, _⟩ | ⟨a, len, cap, m, n, D, Pl, rfl, hb, hl, hm, hmm, hx, hi⟩
  · exact ⟨[.slice t []], ⟨[], rfl⟩, rfl, one_cell (.nil t none 0)⟩
  · have hle : len ≤ m := by rw [hmm]; split <;> omega
    have hpos := E.size_pos t
    have key : ∀ i, i < len → ∃ x : E.Den t, ∀ (j : Nat) c, (E.cells t x)[j]? = some c → ∃ u, w.cell? (a.add (i * E.size t + j)) = some u ∧ DRep E w (below w) u c := by
      intro i hil
      obtain ⟨cs', hc, htr⟩ := hi i (by omega)
      rw [hC] at hc
      obtain ⟨ds, ⟨y, rfl⟩, hlen, hd⟩ := ht enc w base spare held n cs' _ htr
      obtain ⟨_, hcl, hat⟩ := World.cells?_some hc
      refine ⟨y, fun j c hj => ?_⟩
      have hjl : j < E.size t := by rw [← E.cells_len t y]; exact (List.getElem?_eq_some_iff.1 hj).1
      have hcj := hat j hjl
      have hv : cs'[j]? = some (cs'[j]'(by omega)) := List.getElem?_eq_getElem (by omega)
      refine ⟨_, ?_, hd j _ c hv hj⟩
      rw [← Go.Deep.add_add, hcj, hv]
    let pick : Nat → E.Den t := fun i => if hil : i < len then Classical.choose (key i hil) else E.dflt t
    have hpick : ∀ i, i < len → ∀ (j : Nat) c, (E.cells t (pick i))[j]? = some c → ∃ u, w.cell? (a.add (i * E.size t + j)) = some u ∧ DRep E w (below w) u c := by
      intro i hil
      have := Classical.choose_spec (key i hil)
      simpa only [pick, dif_pos hil] using this
    refine ⟨[.slice t ((List.range len).map pick)], ⟨_, rfl⟩, rfl, one_cell ?_⟩
    by_cases h0 : len = 0
    · subst h0
      exact .nil t _ _
    · obtain ⟨g, off, spot⟩ := a
      have hsp : spot = none := by
        have hc0 : 0 < (E.cells t (pick 0)).length := by rw [E.cells_len]; exact hpos
        obtain ⟨u, hu, _⟩ := hpick 0 (by omega) 0 _ (List.getElem?_eq_getElem hc0)
        have := World.cell?_spot hu
        unfold Addr.add at this
        split at this
        · simpa using this
        · rename_i hne; exact absurd (by simp) hne
      subst hsp
      have hlen : ((List.range len).map pick).length = len := by simp
      have at_ : ∀ i x j c, ((List.range len).map pick)[i]? = some x → (E.cells t x)[j]? = some c → ∃ u, w.cell? ⟨g, off + i * E.size t + j, none⟩ = some u ∧ DRep E w (below w) u c := by
        intro i x j c hix hj
        have hil : i < len := by have := (List.getElem?_eq_some_iff.1 hix).1; simpa using this
        have hx' : x = pick i := by simp [hil] at hix; exact hix.symm
        subst hx'
        obtain ⟨u, hu, hd⟩ := hpick i hil j c hj
        rw [show (⟨g, off, none⟩ : Addr).add (i * E.size t + j) = ⟨g, off + (i * E.size t + j), none⟩ from by unfold Addr.add; split <;> simp_all] at hu
        rw [← Nat.add_assoc] at hu
        exact ⟨u, hu, hd⟩
      have := DRep.slice (E := E) (w := w) (ro := below w) t ((List.range len).map pick) g off cap (fun i j => (w.cell? ⟨g, off + i * E.size t + j, none⟩).getD undef) (by rw [hlen]; exact hl)
        (fun i x j c hix hj => by
          obtain ⟨u, hu, _⟩ := at_ i x j c hix hj
          exact ⟨cell_in hu, by rw [hu]; rfl⟩)
        (fun i x j c hix hj => by
          obtain ⟨u, hu, hd⟩ := at_ i x j c hix hj
          simp only [hu, Option.getD_some]
          exact hd)
      rw [hlen] at this
      exact this

def RAll : List (List (DVal E.Den) → Prop) → List (DVal E.Den) → Prop
  | [], ds => ds = []
  | R :: Rs, ds => ∃ a b, R a ∧ ds = a ++ b ∧ RAll Rs b

def FOpens (E : Env P) (n : Nat) : Nat → List Field → List (List (DVal E.Den) → Prop) → Prop
  | off, [], [] => off = n
  | off, f :: fs, R :: Rs => f.offset = off ∧ Opens E f.type R ∧ FOpens E n (off + P.cellsOf f.type) fs Rs
  | _, _, _ => False

theorem fopens_sound {H : Type} {enc : TypeId × Value → H} {w : World} {base : Nat} {spare : Nat → Bool} {held : Bool} {n fuel : Nat} {cs : List Value} (hn : cs.length = n) : ∀ (fl : List Field) (Rs : List (List (DVal E.Den) → Prop)) (off : Nat), FOpens E n off fl Rs →
    (∀ f ∈ fl, ∃ y, DataW.trod enc P w base spare held fuel f.type ((cs.drop f.offset).take (P.cellsOf f.type)) = some y) →
    ∃ ds, RAll Rs ds ∧ (cs.drop off).length = ds.length ∧ ∀ (j : Nat) v d, (cs.drop off)[j]? = some v → ds[j]? = some d → DRep E w (below w) v d
  | [], [], off, h, _ => by
    have h : off = n := h
    subst h
    exact ⟨[], rfl, by simp [hn], fun j v d _ hd => by simp at hd⟩
  | f :: fl, R :: Rs, off, h, hf => by
    obtain ⟨ho, hR, hrest⟩ := h
    subst ho
    obtain ⟨y, hy⟩ := hf f List.mem_cons_self
    obtain ⟨d1, hR1, hl1, hd1⟩ := hR enc w base spare held fuel _ _ hy
    obtain ⟨d2, hR2, hl2, hd2⟩ := fopens_sound hn fl Rs _ hrest fun g hg => hf g (List.mem_cons_of_mem _ hg)
    rw [← List.drop_drop] at hl2 hd2
    generalize hA : (cs.drop f.offset).take (P.cellsOf f.type) = A at *
    generalize hB : (cs.drop f.offset).drop (P.cellsOf f.type) = B at *
    have hsplit : cs.drop f.offset = A ++ B := by rw [← hA, ← hB, List.take_append_drop]
    refine ⟨d1 ++ d2, ⟨d1, d2, hR1, rfl, hR2⟩, by rw [hsplit, List.length_append, List.length_append, hl1, hl2], fun j v d hv hd => ?_⟩
    rw [hsplit] at hv
    rcases Nat.lt_or_ge j d1.length with hj | hj
    · rw [List.getElem?_append_left (by omega)] at hv
      rw [List.getElem?_append_left hj] at hd
      exact hd1 j v d hv hd
    · rw [List.getElem?_append_right (by omega), hl1] at hv
      rw [List.getElem?_append_right hj] at hd
      exact hd2 _ v d hv hd
  | [], _ :: _, _, h, _ => h.elim
  | _ :: _, [], _, h, _ => h.elim

theorem opens_struct {T : TypeId} {fs : Array Field} {Rs : List (List (DVal E.Den) → Prop)} (hT : P.underlying T = some (.struct fs)) (hF : FOpens E (P.cellsOf T) 0 fs.toList Rs) : Opens E T (RAll Rs) := by
  intro H enc w base spare held fuel cs x h
  obtain ⟨xs, n, rfl, rfl, hl, hlen, hf⟩ := DataW.trod_struct hT h
  obtain ⟨ds, h1, h2, h3⟩ := fopens_sound (enc := enc) (w := w) (base := base) (spare := spare) (held := held) (fuel := n) hl fs.toList Rs 0 hF (fun f hf' => by
    obtain ⟨i, hi⟩ := List.getElem?_of_mem hf'
    have hi' : fs[i]? = some f := by simpa using hi
    have hlt : i < xs.length := by rw [hlen]; exact (Array.getElem?_eq_some_iff.1 hi').1
    exact ⟨xs[i], by rw [hf i f hi', List.getElem?_eq_getElem hlt]⟩)
  exact ⟨ds, h1, by simpa using h2, by simpa using h3⟩

theorem Opens.mono {T : TypeId} {R R' : List (DVal E.Den) → Prop} (h : Opens E T R) (hR : ∀ ds, R ds → R' ds) : Opens E T R' := by
  intro H enc w base spare held fuel cs x hx
  obtain ⟨ds, h1, h2⟩ := h enc w base spare held fuel cs x hx
  exact ⟨ds, hR ds h1, h2⟩

/-- An argument as the law's caller hands it. -/
theorem arg_rep {H : Type} {enc : TypeId × Value → H} {w : World} {base : Nat} {spare : Nat → Bool} {held : Bool} {t : E.Ty} (ho : OpensT E t) {v : Value} {d : DataW H} {p : List MemPlace} (hsh : (E.agg t = true ∧ ∃ vs, v = .agg vs) ∨ (E.agg t = false ∧ v.cells = #[v]))
    (h : DataW.Trod enc P w base spare held (E.tid t) v d p) : ∃ x, TRep E w (below w) v t x := by
  obtain ⟨fuel, h⟩ := h
  obtain ⟨ds, ⟨x, rfl⟩, hl, hd⟩ := ho enc w base spare held fuel _ _ h
  refine ⟨x, ?_⟩
  rcases hsh with ⟨ha, vs, rfl⟩ | ⟨ha, hv⟩
  · exact .inl ⟨ha, vs, rfl, by simpa [Value.cells] using hl, fun j u e hu he => hd j u e (by simpa [Value.cells] using hu) he⟩
  · rw [hv] at hl hd
    obtain ⟨c, hc⟩ := single_of_len ((E.cells_len t x).trans (E.one t ha))
    refine .inr ⟨ha, c, hc, hd 0 v c rfl (by rw [hc]; rfl)⟩
end
end Go.Proofs.YtfoflgciceckoaaGreatDoor.Mir
