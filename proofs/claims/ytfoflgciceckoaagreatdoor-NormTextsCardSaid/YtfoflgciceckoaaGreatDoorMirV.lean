/- The Mirror, part V: what reads at a type that holds itself (by the reading's own depth). -/
import Derived.Test.YtfoflgciceckoaaGreatDoorMirS
namespace Go.Proofs.YtfoflgciceckoaaGreatDoor.Mir
open Go Go.RowKit Go.Deep

section
variable {P : Program} {E : Env P}

/-- What reads at a type number, at a depth below b, has cells of this kind. -/
def OpensB (E : Env P) (b : Nat) (T : TypeId) (R : List (DVal E.Den) → Prop) : Prop :=
  ∀ {H : Type} (enc : TypeId × Value → H) (w : World) (base : Nat) (spare : Nat → Bool) (held : Bool) (fuel : Nat) (cs : List Value) (x : DataW H × List MemPlace), fuel < b → DataW.trod enc P w base spare held fuel T cs = some x →
    ∃ ds, R ds ∧ cs.length = ds.length ∧ ∀ (j : Nat) v d, cs[j]? = some v → ds[j]? = some d → DRep E w (below w) v d
theorem opensB_all {T : TypeId} {R : List (DVal E.Den) → Prop} (h : ∀ b, OpensB E b T R) : Opens E T R := fun enc w base spare held fuel cs x hx => h (fuel + 1) enc w base spare held fuel cs x (Nat.lt_succ_self _) hx
theorem opensB_of {b : Nat} {T : TypeId} {R : List (DVal E.Den) → Prop} (h : Opens E T R) : OpensB E b T R := fun enc w base spare held fuel cs x _ hx => h enc w base spare held fuel cs x hx
theorem opensB_zero {T : TypeId} {R : List (DVal E.Den) → Prop} : OpensB E 0 T R := fun _ _ _ _ _ _ _ _ hx _ => absurd hx (Nat.not_lt_zero _)
theorem OpensB.mono {b : Nat} {T : TypeId} {R R' : List (DVal E.Den) → Prop} (h : OpensB E b T R) (hR : ∀ ds, R ds → R' ds) : OpensB E b T R' := fun enc w base spare held fuel cs x hfb hx => by
  obtain ⟨ds, h1, h2⟩ := h enc w base spare held fuel cs x hfb hx
  exact ⟨ds, hR ds h1, h2⟩
theorem opensB_slice {b : Nat} {T : TypeId} {t : E.Ty} (hT : P.underlying T = some (.slice (E.tid t))) (ht : OpensB E b (E.tid t) fun ds => ∃ x, ds = E.cells t x) (hC : P.cellsOf (E.tid t) = E.size t) : OpensB E b T fun ds => ∃ l, ds = [.slice t l] := by
  intro H enc w base spare held fuel cs x hfb h
  rcases DataW.trod_slice hT h with ⟨rfl, _⟩ | ⟨a, len, cap, elems, rest, n, hfu, rfl, hx, hb, hl, hm, hlen0, hel, _, _⟩
  · exact ⟨[.slice t []], ⟨[], rfl⟩, rfl, one_cell (.nil t none 0)⟩
  · have hpos := E.size_pos t
    have key : ∀ i, i < len → ∃ x : E.Den t, ∀ (j : Nat) c, (E.cells t x)[j]? = some c → ∃ u, w.cell? (a.add (i * E.size t + j)) = some u ∧ DRep E w (below w) u c := by
      intro i hil
      have hei := hel i hil
      rw [List.getElem?_eq_getElem (show i < elems.length by omega)] at hei
      obtain ⟨cs', hc, htr⟩ := Option.bind_eq_some_iff.1 hei
      rw [hC] at hc
      obtain ⟨ds, ⟨y, rfl⟩, hlen, hd⟩ := ht enc w base spare held n cs' _ (by omega) htr
      obtain ⟨_, hcl, hat⟩ := World.cells?_some hc
      refine ⟨y, fun j c hj => ?_⟩
      have hjl : j < E.size t := by rw [← E.cells_len t y]; exact (List.getElem?_eq_some_iff.1 hj).1
      have hcj := hat j hjl
      have hv : cs'[j]? = some (cs'[j]'(by omega)) := List.getElem?_eq_getElem (by omega)
      refine ⟨_, ?_, hd j _ c hv hj⟩
      rw [← Go.Deep.add_add, hcj, hv]
    let pick : Nat → E.Den t := fun i => if hil : i < len then Classical.choose (key i hil) else E.dflt t
    have hpick : ∀ i, i < len → ∀ (j : Nat) c, (E.cells t (pick i))[j]? = some c → ∃ u, w.cell? (a.add (i * E.size t + j)) = some u ∧ DRep E w (below w) u c := by
      intro i hil
      have := Classical.choose_spec (key i hil)
      simpa only [pick, dif_pos hil] using this
    refine ⟨[.slice t ((List.range len).map pick)], ⟨_, rfl⟩, rfl, one_cell ?_⟩
    by_cases h0 : len = 0
    · subst h0
      exact .nil t _ _
    · obtain ⟨g, off, spot⟩ := a
      have hsp : spot = none := by
        have hc0 : 0 < (E.cells t (pick 0)).length := by rw [E.cells_len]; exact hpos
        obtain ⟨u, hu, _⟩ := hpick 0 (by omega) 0 _ (List.getElem?_eq_getElem hc0)
        have := World.cell?_spot hu
        unfold Addr.add at this
        split at this
        · simpa using this
        · rename_i hne; exact absurd (by simp) hne
      subst hsp
      have hlen : ((List.range len).map pick).length = len := by simp
      have at_ : ∀ i x j c, ((List.range len).map pick)[i]? = some x → (E.cells t x)[j]? = some c → ∃ u, w.cell? ⟨g, off + i * E.size t + j, none⟩ = some u ∧ DRep E w (below w) u c := by
        intro i x j c hix hj
        have hil : i < len := by have := (List.getElem?_eq_some_iff.1 hix).1; simpa using this
        have hx' : x = pick i := by simp [hil] at hix; exact hix.symm
        subst hx'
        obtain ⟨u, hu, hd⟩ := hpick i hil j c hj
        rw [show (⟨g, off, none⟩ : Addr).add (i * E.size t + j) = ⟨g, off + (i * E.size t + j), none⟩ from by unfold Addr.add; split <;> simp_all] at hu
        rw [← Nat.add_assoc] at hu
        exact ⟨u, hu, hd⟩
      have := DRep.slice (E := E) (w := w) (ro := below w) t ((List.range len).map pick) g off cap (fun i j => (w.cell? ⟨g, off + i * E.size t + j, none⟩).getD undef) (by rw [hlen]; exact hl)
        (fun i x j c hix hj => by
          obtain ⟨u, hu, _⟩ := at_ i x j c hix hj
          exact ⟨cell_in hu, by rw [hu]; rfl⟩)
        (fun i x j c hix hj => by
          obtain ⟨u, hu, hd⟩ := at_ i x j c hix hj
          simp only [hu, Option.getD_some]
          exact hd)
      rw [hlen] at this
      exact this

def FOpensB (E : Env P) (b n : Nat) : Nat → List Field → List (List (DVal E.Den) → Prop) → Prop
  | off, [], [] => off = n
  | off, f :: fs, R :: Rs => f.offset = off ∧ OpensB E b f.type R ∧ FOpensB E b n (off + P.cellsOf f.type) fs Rs
  | _, _, _ => False

theorem fopensB_sound {H : Type} {enc : TypeId × Value → H} {w : World} {base : Nat} {spare : Nat → Bool} {held : Bool} {b n fuel : Nat} {cs : List Value} (hfb : fuel < b) (hn : cs.length = n) : ∀ (fl : List Field) (Rs : List (List (DVal E.Den) → Prop)) (off : Nat), FOpensB E b n off fl Rs →
    (∀ f ∈ fl, ∃ y, DataW.trod enc P w base spare held fuel f.type ((cs.drop f.offset).take (P.cellsOf f.type)) = some y) →
    ∃ ds, RAll Rs ds ∧ (cs.drop off).length = ds.length ∧ ∀ (j : Nat) v d, (cs.drop off)[j]? = some v → ds[j]? = some d → DRep E w (below w) v d
  | [], [], off, h, _ => by
    have h : off = n := h
    subst h
    exact ⟨[], rfl, by simp [hn], fun j v d _ hd => by simp at hd⟩
  | f :: fl, R :: Rs, off, h, hf => by
    obtain ⟨ho, hR, hrest⟩ := h
    subst ho
    obtain ⟨y, hy⟩ := hf f List.mem_cons_self
    obtain ⟨d1, hR1, hl1, hd1⟩ := hR enc w base spare held fuel _ _ hfb hy
    obtain ⟨d2, hR2, hl2, hd2⟩ := fopensB_sound hfb hn fl Rs _ hrest fun g hg => hf g (List.mem_cons_of_mem _ hg)
    rw [← List.drop_drop] at hl2 hd2
    generalize hA : (cs.drop f.offset).take (P.cellsOf f.type) = A at *
    generalize hB : (cs.drop f.offset).drop (P.cellsOf f.type) = B at *
    have hsplit : cs.drop f.offset = A ++ B := by rw [← hA, ← hB, List.take_append_drop]
    refine ⟨d1 ++ d2, ⟨d1, d2, hR1, rfl, hR2⟩, by rw [hsplit, List.length_append, List.length_append, hl1, hl2], fun j v d hv hd => ?_⟩
    rw [hsplit] at hv
    rcases Nat.lt_or_ge j d1.length with hj | hj
    · rw [List.getElem?_append_left (by omega)] at hv
      rw [List.getElem?_append_left hj] at hd
      exact hd1 j v d hv hd
    · rw [List.getElem?_append_right (by omega), hl1] at hv
      rw [List.getElem?_append_right hj] at hd
      exact hd2 _ v d hv hd
  | [], _ :: _, _, h, _ => h.elim
  | _ :: _, [], _, h, _ => h.elim

theorem opensB_struct {b : Nat} {T : TypeId} {fs : Array Field} {Rs : List (List (DVal E.Den) → Prop)} (hT : P.underlying T = some (.struct fs)) (hF : FOpensB E b (P.cellsOf T) 0 fs.toList Rs) : OpensB E (b + 1) T (RAll Rs) := by
  intro H enc w base spare held fuel cs x hfb h
  obtain ⟨xs, n, rfl, rfl, hl, hlen, hf⟩ := DataW.trod_struct hT h
  obtain ⟨ds, h1, h2, h3⟩ := fopensB_sound (enc := enc) (w := w) (base := base) (spare := spare) (held := held) (fuel := n) (by omega) hl fs.toList Rs 0 hF (fun f hf' => by
    obtain ⟨i, hi⟩ := List.getElem?_of_mem hf'
    have hi' : fs[i]? = some f := by simpa using hi
    have hlt : i < xs.length := by rw [hlen]; exact (Array.getElem?_eq_some_iff.1 hi').1
    exact ⟨xs[i], by rw [hf i f hi', List.getElem?_eq_getElem hlt]⟩)
  exact ⟨ds, h1, by simpa using h2, by simpa using h3⟩

end
end Go.Proofs.YtfoflgciceckoaaGreatDoor.Mir
