/- Plain facts of edges: the program's are the reference's; a form's form is itself. -/
import Derived.Test.YtpmknebhacaocaaGreatDoorE2
import Derived.Test.YtpmknebhacaocaaGreatDoorG18
namespace Go.Proofs.YtpmknebhacaocaaGreatDoor.Rf
open Go Go.RowKit Go.Sort Go.Proofs.YtpmknebhacaocaaGreatDoor.Mir
/-! ### Plain facts of edges -/
theorem filt_len {ks L : List (List UInt8)} (hk : ks.Nodup) (hL : L.Nodup) : ((L.filter (fun k => inV ks k)).length = ks.length) ↔ (ks.all fun k => inV L k) = true := by
  have hF : (L.filter (fun k => inV ks k)).Nodup := hL.filter _
  have hFk : ∀ x ∈ L.filter (fun k => inV ks k), x ∈ ks := fun x hx => inV_iff.1 (List.mem_filter.1 hx).2
  have hle := nd_le _ ks hF hFk
  rw [List.all_eq_true]
  constructor
  · intro he k hkm
    cases hb : inV L k with
    | true => rfl
    | false =>
      exfalso
      have hnL : k ∉ L := fun h => by rw [inV_iff.2 h] at hb; cases hb
      have := nd_le _ (ks.erase k) hF fun x hx => (List.mem_erase_of_ne (fun e => by subst e; exact hnL (List.mem_filter.1 hx).1)).2 (hFk x hx)
      rw [List.length_erase_of_mem hkm] at this
      have := List.length_pos_of_mem hkm
      omega
  · intro ha
    have := nd_le ks _ hk fun x hx => List.mem_filter.2 ⟨inV_iff.1 (ha x hx), inV_iff.2 hx⟩
    omega
theorem getB_in {m : Node} (h3 : m.kind = 3) (hl : m.keys.length = m.kids.length) (k : List UInt8) : getB m k = inV m.keys k := by
  unfold getB get
  rw [if_pos h3]; exact lk_there hl
theorem lf3 {m : Node} (h3 : m.kind = 3) (hl : m.keys.length = m.kids.length) (hn : m.keys.Nodup) : (lfV m == 0) = onlB m [cK, sK, rK] := by
  have h := filt_len hn (show ([cK, sK, rK] : List (List UInt8)).Nodup by decide)
  have e : (([cK, sK, rK].filter fun k => inV m.keys k).length : Int) = (b2 (inV m.keys cK) + b2 (inV m.keys sK)) + b2 (inV m.keys rK) := by
    cases h1 : inV m.keys cK <;> cases h2 : inV m.keys sK <;> cases h4 : inV m.keys rK <;> simp [List.filter, h1, h2, h4, b2]
  unfold lfV onlB
  rw [getB_in h3 hl, getB_in h3 hl, getB_in h3 hl, neF h3, cond_false]
  cases ha : (m.keys.all fun k => inV [cK, sK, rK] k) with
  | true => have := h.2 ha; exact eqT (by omega)
  | false =>
    refine eqF fun h0 => ?_
    have := h.1 (by omega)
    rw [this] at ha; cases ha
def tf (s : List UInt8) : Bool := (s == tru) || (s == fls)
def co (s : List UInt8) : Bool := ((s == stdS) || (s == hltS)) || (s == cmpS)
theorem ntf_tf (s : List UInt8) : ntf s = !(tf s) := by unfold ntf tf; cases s == tru <;> cases s == fls <;> rfl
theorem nco_co (s : List UInt8) : nco s = !(co s) := by unfold nco co; cases s == stdS <;> cases s == hltS <;> cases s == cmpS <;> rfl
theorem tru_tf (m : Node) (k o : List UInt8) : truB m k o = (fldB m k [] && tf (fldV m k o)) := by
  have e : truB m k o = (bif fldB m k [] then (bif fldV m k o == tru then true else fldV m k o == fls) else false) := rfl
  rw [e]; unfold tf
  cases fldB m k [] <;> cases fldV m k o == tru <;> rfl
theorem bd_eq {m : Node} (h3 : m.kind = 3) : (!(bdV m)) = (bif (bif (bif fldB m cK stdS then truB m sK fls else false) then truB m rK tru else false) then (bif (bif fldV m cK stdS == stdS then true else fldV m cK stdS == hltS) then true else fldV m cK stdS == cmpS) else false) := by
  have e1 : fldB m cK stdS = fldB m cK [] := rfl
  have e2 : (bif (bif fldV m cK stdS == stdS then true else fldV m cK stdS == hltS) then true else fldV m cK stdS == cmpS) = co (fldV m cK stdS) := by
    unfold co
    cases fldV m cK stdS == stdS <;> cases fldV m cK stdS == hltS <;> rfl
  rw [e1, e2, tru_tf, tru_tf]
  unfold bdV
  rw [neF h3, ntf_tf, ntf_tf, nco_co]
  cases fldB m cK [] <;> cases fldB m sK [] <;> cases fldB m rK [] <;> cases tf (fldV m sK fls) <;> cases tf (fldV m rK tru) <;> cases co (fldV m cK stdS) <;> rfl
/-- A value by a key as it may come in. -/
def Ky (y : Node) : Prop := (y.kind = 0 → y = zn) ∧ (y.kind = 3 → y.keys.length = y.kids.length ∧ y.keys.Nodup)
theorem Ky.zn : Ky zn := ⟨fun _ => rfl, fun h => by cases h⟩
theorem em_not {y : Node} (h0 : y.kind ≠ 0) : em y = y := by unfold em; rw [eqF h0]; rfl
theorem em_zero {y : Node} (h0 : y.kind = 0) : em y = ⟨3, [], [], []⟩ := by unfold em; rw [eqT h0]; rfl
theorem Ky.em {y : Node} (h : Ky y) : ((em y).kind = 3 → (em y).keys.length = (em y).kids.length ∧ (em y).keys.Nodup) := by
  by_cases h0 : y.kind = 0
  · rw [em_zero h0]; exact fun _ => ⟨rfl, List.nodup_nil⟩
  · rw [em_not h0]; exact h.2
theorem said_tf {s : List UInt8} (h : tf s = true) : saidV (s == tru) = txtN s := by
  unfold tf at h
  cases h1 : s == tru with
  | true =>
    have : s = tru := by simpa using h1
    subst this; rfl
  | false =>
    rw [h1, Bool.false_or] at h
    have : s = fls := by simpa using h
    subst this; rfl
theorem ed_parts {y : Node} (h : edB y = true) : (em y).kind = 3 ∧ co (fldV (em y) cK stdS) = true ∧ tf (fldV (em y) sK fls) = true ∧ tf (fldV (em y) rK tru) = true := by
  unfold edB at h
  rw [Bool.and_eq_true, Bool.not_eq_true'] at h
  have hb := h.1
  unfold bdV at hb
  rw [ntf_tf, ntf_tf, nco_co] at hb
  simp only [Bool.or_eq_false_iff, Bool.not_eq_false', bne_eq_false_iff_eq] at hb
  obtain ⟨⟨⟨⟨⟨⟨h1, _⟩, _⟩, h2⟩, _⟩, h3⟩, h4⟩ := hb
  exact ⟨h1, h4, h2, h3⟩
theorem ed_eq {y : Node} (hy : Ky y) : edB y = redB y ∧ (edB y = true → edV y = redV y) := by
  by_cases h3 : (em y).kind = 3
  · obtain ⟨hl, hn⟩ := hy.em h3
    have e := lf3 h3 hl hn
    have eb : edB y = redB y := by
      unfold edB redB
      rw [e, bd_eq h3]
      cases onlB (em y) [cK, sK, rK] with
      | true => rw [cond_true, Bool.and_true]
      | false => rw [cond_false, Bool.and_false]
    refine ⟨eb, fun hb => ?_⟩
    obtain ⟨_, _, q2, q3⟩ := ed_parts hb
    have ho : onlB (em y) [cK, sK, rK] = true := by
      rw [eb] at hb
      unfold redB at hb
      cases h : onlB (em y) [cK, sK, rK] with
      | true => rfl
      | false => rw [h] at hb; cases hb
    unfold edV redV
    rw [ho, said_tf q2, said_tf q3]
    rfl
  · have o : onlB (em y) [cK, sK, rK] = false := by unfold onlB; rw [neT h3]; rfl
    have b : edB y = false := by unfold edB bdV; rw [neT h3]; rfl
    refine ⟨by rw [b]; unfold redB; rw [o]; rfl, fun h => by rw [b] at h; cases h⟩
/-- The form of an edge. -/
def isEd (y : Node) : Prop := edB y = true ∧ edV y = y
theorem tfV_tru (b : Bool) : (tfV b == tru) = b := by cases b <;> rfl
theorem tf_tfV (b : Bool) : tf (tfV b) = true := by cases b <;> rfl
theorem ed_again {c : List UInt8} (hc : co c = true) (r s : Bool) : isEd ⟨3, [], [cK, rK, sK], [txt1 c, saidV r, saidV s]⟩ := by
  have em_ : em (⟨3, [], [cK, rK, sK], [txt1 c, saidV r, saidV s]⟩ : Node) = ⟨3, [], [cK, rK, sK], [txt1 c, saidV r, saidV s]⟩ := rfl
  have g1 : getB (⟨3, [], [cK, rK, sK], [txt1 c, saidV r, saidV s]⟩ : Node) cK = true := rfl
  have g2 : getB (⟨3, [], [cK, rK, sK], [txt1 c, saidV r, saidV s]⟩ : Node) rK = true := rfl
  have g3 : getB (⟨3, [], [cK, rK, sK], [txt1 c, saidV r, saidV s]⟩ : Node) sK = true := rfl
  have v1 : getV (⟨3, [], [cK, rK, sK], [txt1 c, saidV r, saidV s]⟩ : Node) cK = txt1 c := rfl
  have v2 : getV (⟨3, [], [cK, rK, sK], [txt1 c, saidV r, saidV s]⟩ : Node) rK = saidV r := rfl
  have v3 : getV (⟨3, [], [cK, rK, sK], [txt1 c, saidV r, saidV s]⟩ : Node) sK = saidV s := rfl
  have f1 : ∀ o, fldV (⟨3, [], [cK, rK, sK], [txt1 c, saidV r, saidV s]⟩ : Node) cK o = c := fun o => by unfold fldV; rw [g1, v1]; rfl
  have f2 : ∀ o, fldV (⟨3, [], [cK, rK, sK], [txt1 c, saidV r, saidV s]⟩ : Node) rK o = tfV r := fun o => by unfold fldV; rw [g2, v2]; rfl
  have f3 : ∀ o, fldV (⟨3, [], [cK, rK, sK], [txt1 c, saidV r, saidV s]⟩ : Node) sK o = tfV s := fun o => by unfold fldV; rw [g3, v3]; rfl
  constructor
  · unfold edB bdV lfV
    rw [em_, f1, f2, f3, ntf_tf, ntf_tf, nco_co, tf_tfV, tf_tfV, hc, g1, g2, g3]
    unfold fldB
    rw [g1, g2, g3, v1, v2, v3]
    rfl
  · unfold edV
    rw [em_, f1, f2, f3, tfV_tru, tfV_tru]
theorem ed_is {y : Node} (h : edB y = true) : isEd (edV y) := ed_again (ed_parts h).2.1 _ _
theorem isEd_wk (y : Node) (h : isEd y) : wg 10000 11 y = true ∧ kd 11 y = true := by
  rw [← h.2]
  exact ⟨edV_wg y, by simp [kd, edV, txt1, saidV]⟩
theorem sortK3 : Pl.sortD [cK, rK, sK] = [cK, rK, sK] := Pl.sortD_eq (by unfold Pl.SS; decide) fun _ => Iff.rfl
theorem isEd_s (y : Node) (h : isEd y) : sortN 11 y = y := by
  have e : ∀ a b c : Node, sortN 10 a = a → sortN 10 b = b → sortN 10 c = c → sortN 11 (⟨3, [], [cK, rK, sK], [a, b, c]⟩ : Node) = ⟨3, [], [cK, rK, sK], [a, b, c]⟩ := by
    intro a b c h1 h2 h3
    have e1 : sortN 11 (⟨3, [], [cK, rK, sK], [a, b, c]⟩ : Node) = ⟨3, [], Pl.sortD [cK, rK, sK], (Pl.sortD [cK, rK, sK]).map fun k => sortN 10 (getV ⟨3, [], [cK, rK, sK], [a, b, c]⟩ k)⟩ := rfl
    have v1 : getV (⟨3, [], [cK, rK, sK], [a, b, c]⟩ : Node) cK = a := rfl
    have v2 : getV (⟨3, [], [cK, rK, sK], [a, b, c]⟩ : Node) rK = b := rfl
    have v3 : getV (⟨3, [], [cK, rK, sK], [a, b, c]⟩ : Node) sK = c := rfl
    rw [e1, sortK3, List.map_cons, List.map_cons, List.map_cons, List.map_nil, v1, v2, v3, h1, h2, h3]
  rw [← h.2]
  exact e _ _ _ rfl rfl rfl
theorem isEd_ky {y : Node} (h : isEd y) : Ky y := by
  rw [← h.2]
  exact ⟨(fun e => by cases e), fun _ => ⟨rfl, (by show [cK, rK, sK].Nodup; decide)⟩⟩
theorem isEd_red {y : Node} (h : isEd y) : redB y = true ∧ redV y = y := by
  obtain ⟨h1, h2⟩ := ed_eq (isEd_ky h)
  exact ⟨by rw [← h1]; exact h.1, by rw [← h2 h.1]; exact h.2⟩
/-! Edges gathered, on both sides -/
theorem pd_bad (f : List UInt8 → Bool) : ∀ (l : List (List UInt8)) (r : List Node) (o : Node), (pd f l r o true).2 = true
  | [], _, _ => rfl
  | _ :: _, [], _ => rfl
  | s :: t, y :: r, o => pd_bad f t r _
theorem rd_no (g : List UInt8 → Bool) (l : List (List UInt8)) (r : List Node) (o : Node) : (rd g l r false o).2 = false := by
  cases l with
  | nil => rfl
  | cons s t => cases r <;> rfl
theorem pd_eq {ψ : List UInt8 → Prop} {f g : List UInt8 → Bool} (hfg : ∀ s, f s = g s) (hψ : ∀ k, g k = true → ψ k) : ∀ (l : List (List UInt8)) (r : List Node) (o : Node), (∀ y ∈ r, Ky y) → Iv ψ isEd o →
    ((pd f l r o false).2 = true ∧ (rd g l r true o).2 = false) ∨ ∃ o', pd f l r o false = (o', false) ∧ rd g l r true o = (o', true) ∧ Iv ψ isEd o'
  | [], _, o, _, h => .inr ⟨o, by unfold pd; rfl, by unfold rd; rfl, h⟩
  | _ :: _, [], o, _, h => .inr ⟨o, by unfold pd; rfl, by unfold rd; rfl, h⟩
  | s :: t, y :: r, o, hy, h => by
    obtain ⟨q1, q2⟩ := ed_eq (hy y List.mem_cons_self)
    unfold pd rd
    rw [hfg, h.with_, cond_true, cond_false, ← q1]
    cases he : edB y with
    | false => exact .inl ⟨pd_bad f t r _, rd_no g t r _⟩
    | true =>
      rw [← q2 he]
      cases hg : g s with
      | false => exact .inl ⟨pd_bad f t r _, rd_no g t r _⟩
      | true => exact pd_eq hfg hψ t r _ (fun z hz => hy z (List.mem_cons_of_mem _ hz)) (h.put (hψ s hg) (ed_is he))
theorem rd_all {g : List UInt8 → Bool} : ∀ (ks : List (List UInt8)) (vs : List Node) (o : Node), ks.length = vs.length → ks.Nodup → (∀ k ∈ ks, k ∉ o.keys) → (o.kind = 0 ∨ o.kind = 3) → o.keys.length = o.kids.length → o.text = [] →
    (∀ k ∈ ks, g k = true) → (∀ y ∈ vs, redB y = true ∧ redV y = y) → ∃ o', rd g ks vs true o = (o', true) ∧ o'.text = [] ∧ o'.keys = o.keys ++ ks ∧ o'.kids = o.kids ++ vs
  | [], [], o, _, _, _, _, _, ht, _, _ => ⟨o, by unfold rd; rfl, ht, by simp, by simp⟩
  | s :: t, y :: r, o, hl, hn, hd, hk, hlen, ht, hg, hv => by
    have hn' := List.nodup_cons.1 hn
    obtain ⟨v1, v2⟩ := hv y List.mem_cons_self
    unfold rd
    rw [hg s List.mem_cons_self, v1, v2, cond_true, cond_true, withV_new hk hlen (hd s List.mem_cons_self)]
    obtain ⟨o', h1, h2, h3, h4⟩ := rd_all (g := g) t r ⟨3, [], o.keys ++ [s], o.kids ++ [y]⟩ (by simpa using hl) hn'.2 (fun k hm hq => by
        rcases List.mem_append.1 hq with hq | hq
        · exact hd k (List.mem_cons_of_mem _ hm) hq
        · rw [List.mem_singleton.1 hq] at hm; exact hn'.1 hm) (.inr rfl) (by simp [hlen]) rfl (fun k hm => hg k (List.mem_cons_of_mem _ hm)) (fun z hz => hv z (List.mem_cons_of_mem _ hz))
    exact ⟨o', h1, h2, by rw [h3]; simp, by rw [h4]; simp⟩
  | [], _ :: _, _, h, _, _, _, _, _, _, _ => by simp at h
  | _ :: _, [], _, h, _, _, _, _, _, _, _ => by simp at h
def Ge (n : Node) : Prop := (n.kind = 3 → n.keys.length = n.kids.length) ∧ ∀ y ∈ n.kids, Ky y
theorem deps_eq {n : Node} (hn : Ge n) : (dpV n = rdpV n ∧ dpE n = (bif rdpB n then 0 else 10)) ∧ (rdpB n = true → Sf (fun k => nameV badS k = true) isEd (rdpV n)) := by
  have fin : ∀ (p q : Node × Bool), ((p.2 = true ∧ q.2 = false) ∨ ∃ o, p = (o, false) ∧ q = (o, true) ∧ Iv (fun k => nameV badS k = true) isEd o) →
      (dnV p.1 p.2 = doneV q.1 q.2 ∧ dnE p.1 p.2 = (bif doneB q.1 q.2 then 0 else 10)) ∧ (doneB q.1 q.2 = true → Sf (fun k => nameV badS k = true) isEd (doneV q.1 q.2)) := by
    rintro p q (⟨ha, hb⟩ | ⟨o, rfl, rfl, hi⟩)
    · rw [ha, hb]; exact ⟨dn_bad _, fun h => by cases h⟩
    · refine ⟨hi.dn isEd_wk, fun hb => ?_⟩
      have hb : doneB o true = true := hb
      have h32 : o.keys.length ≤ 32 := by
        unfold doneB at hb
        simp only [Bool.not_true, cond_false, Bool.not_eq_true', decide_eq_false_iff_not] at hb
        omega
      have e : doneV o true = sortN 12 (mapN o) := by unfold doneV; rw [hb]; rfl
      show Sf _ _ (doneV o true)
      rw [e]
      exact hi.form isEd_s h32
  have hm : memB n 3 = rs0 n := by
    unfold memB rs0
    by_cases h3 : n.kind = 3
    · rw [hn.1 h3]
    · rw [eqF h3]; rfl
  have hky : ∀ l, ∀ y ∈ dpN n l, Ky y := fun l y hy => by
    unfold dpN at hy
    by_cases h3 : n.kind = 3
    · rw [eqT h3] at hy; exact hn.2 y hy
    · rw [eqF h3, cond_false] at hy
      obtain ⟨_, _, rfl⟩ := List.mem_map.1 hy
      exact Ky.zn
  have step := fun (l : List (List UInt8)) => pd_eq (ψ := fun k => nameV badS k = true) (f := ofV s1B s2B) (g := nameV badS) service_eq (fun k h => h) l (dpN n l) zn (hky l) Iv.nil
  unfold dpV dpE rdpV rdpB
  refine fin (dpP n) (rdP n) ?_
  unfold dpP rdP dp0 dpK rdK
  rw [hm]
  cases hr : rs0 n with
  | true => exact step n.keys
  | false =>
    simp only [cond_false]
    rw [rtxB_eq]
    cases ht : txsB n with
    | false => exact .inl ⟨pd_bad _ _ _ _, rd_no _ _ _ _⟩
    | true =>
      rw [rtxL_eq ht]
      exact step (txsL n)
theorem deps_self {a : Node} (h : Sf (fun k => nameV badS k = true) isEd a) : rdpV a = a ∧ rdpB a = true := by
  have hr : rs0 a = true := by
    unfold rs0
    rw [eqT h.kind, cond_true, dT (by have := h.le; omega)]
  have hd : dpN a a.keys = a.kids := by unfold dpN; rw [eqT h.kind]; rfl
  obtain ⟨o', h1, h2, h3, h4⟩ := rd_all (g := nameV badS) a.keys a.kids zn h.len (ss_nodup h.ss) (fun k _ h => by cases h) (.inl rfl) rfl rfl h.key (fun y hy => isEd_red (h.kid y hy))
  unfold rdpV rdpB rdP rdK
  rw [hr]
  simp only [cond_true]
  rw [hd, h1]
  exact done_form h isEd_s h2 (by rw [h3]; rfl) (by rw [h4]; rfl)
/-! ### What is extended -/
theorem lf2 {m : Node} (h3 : m.kind = 3) (hl : m.keys.length = m.kids.length) (hn : m.keys.Nodup) : (exLf m == 0) = onlB m [svK, fiK] := by
  have h := filt_len hn (show ([svK, fiK] : List (List UInt8)).Nodup by decide)
  have e : (([svK, fiK].filter fun k => inV m.keys k).length : Int) = b2 (inV m.keys svK) + b2 (inV m.keys fiK) := by
    cases h1 : inV m.keys svK <;> cases h2 : inV m.keys fiK <;> simp [List.filter, h1, h2, b2]
  unfold exLf onlB
  rw [getB_in h3 hl, getB_in h3 hl, neF h3, cond_false]
  cases ha : (m.keys.all fun k => inV [svK, fiK] k) with
  | true => have := h.2 ha; exact eqT (by omega)
  | false =>
    refine eqF fun h0 => ?_
    have := h.1 (by omega)
    rw [this] at ha; cases ha
theorem one_len (s : List UInt8) : decide ((s.length : Int) < 1) = (s == []) := by
  cases s with
  | nil => rfl
  | cons c t => rw [dF (show ¬ (((c :: t).length : Nat) : Int) < 1 by rw [List.length_cons]; omega)]; rfl
theorem ex_fl {m : Node} (h3 : m.kind = 3) (hl : m.keys.length = m.kids.length) (hn : m.keys.Nodup) : exFl m = (bif !(onlB m [svK, fiK]) then true else rxB m) := by
  have e1 : fldB m fiK xS = fldB m fiK [] := rfl
  unfold exFl exBd rxB
  rw [lf2 h3 hl hn, neF h3, service_eq, one_len, e1]
  cases onlB m [svK, fiK] <;> cases fldB m svK [] <;> cases fldB m fiK [] <;> cases nameV badS (fldV m svK []) <;> cases fldV m fiK xS == [] <;> cases decide ((64 : Int) < ((fldV m fiK xS).length : Int)) <;> rfl
def exK (k : List UInt8) : Prop := k = svK ∨ k = fiK
/-- What is extended, as it comes in, with its short form spread out. -/
structure Gx (m : Node) : Prop where
  text : m.kind = 3 → m.text = []
  len : m.kind = 3 → m.keys.length = m.kids.length
  nd : m.kind = 3 → m.keys.Nodup
  wg_ : wg 10000 12 m = true
  kd_ : kd 12 m = true
  tx : ∀ y ∈ m.kids, y.kind = 1 → isTx y
theorem onl_le {m : Node} (h : onlB m [svK, fiK] = true) (hn : m.kind = 3 → m.keys.Nodup) : m.kind = 3 ∧ m.keys.length ≤ 2 ∧ ∀ k ∈ m.keys, exK k := by
  unfold onlB at h
  by_cases h3 : m.kind = 3
  · rw [neF h3, cond_false, List.all_eq_true] at h
    refine ⟨h3, nd_le m.keys [svK, fiK] (hn h3) fun k hk => inV_iff.1 (h k hk), fun k hk => ?_⟩
    have := inV_iff.1 (h k hk)
    simpa [exK] using this
  · rw [neT h3] at h; cases h
theorem get_sort {o : Node} (h3 : o.kind = 3) (hl : o.keys.length = o.kids.length) (k : List UInt8) : get (sortN 12 o) k = (get o k).map (sortN 11) := by
  have e : sortN 12 o = ⟨o.kind, o.text, Pl.sortD o.keys, (Pl.sortD o.keys).map fun k => sortN 11 (getV o k)⟩ := by
    show (bif o.kind == 3 then _ else _) = _
    rw [eqT h3]; rfl
  rw [e]
  show (if o.kind = 3 then lk (Pl.sortD o.keys) ((Pl.sortD o.keys).map fun k => sortN 11 (getV o k)) k else none) = _
  rw [if_pos h3]
  by_cases hk : k ∈ o.keys
  · rw [lk_map _ _ (Pl.sortD_mem.2 hk)]
    obtain ⟨v, hv⟩ := lk_some hl hk
    have hg : get o k = some v := by unfold get; rw [if_pos h3]; exact hv
    unfold getV
    rw [hg]; rfl
  · have h1 : get o k = none := by
      unfold get
      rw [if_pos h3]
      have := lk_there (k := k) hl
      rw [inV_no hk] at this
      cases hq : lk o.keys o.kids k with
      | none => rfl
      | some v => rw [hq] at this; cases this
    have h2 : lk (Pl.sortD o.keys) ((Pl.sortD o.keys).map fun k => sortN 11 (getV o k)) k = none := by
      have := lk_there (k := k) (ks := Pl.sortD o.keys) (vs := (Pl.sortD o.keys).map fun k => sortN 11 (getV o k)) (by simp)
      rw [inV_no (fun h => hk (Pl.sortD_mem.1 h))] at this
      cases hq : lk (Pl.sortD o.keys) ((Pl.sortD o.keys).map fun k => sortN 11 (getV o k)) k with
      | none => rfl
      | some v => rw [hq] at this; cases this
    rw [h1, h2]; rfl
theorem Gx.kids {m : Node} (g : Gx m) (ho : onlB m [svK, fiK] = true) (hr : rxB m = false) : ∀ y ∈ m.kids, isTx y := by
  obtain ⟨h3, hle, hk⟩ := onl_le ho g.nd
  have hl := g.len h3
  -- both fields are texts
  have fs : fldB m svK [] = true ∧ fldB m fiK [] = true := by
    unfold rxB at hr
    have e1 : fldB m fiK xS = fldB m fiK [] := rfl
    rw [e1] at hr
    cases a : fldB m svK [] <;> cases b : fldB m fiK [] <;> rw [a, b] at hr <;> first | exact ⟨rfl, rfl⟩ | cases hr
  intro y hy
  obtain ⟨i, hi, rfl⟩ := List.getElem_of_mem hy
  have hik : i < m.keys.length := by omega
  have hget : get m m.keys[i] = some m.kids[i] := by
    unfold get
    rw [if_pos h3]
    have hm := lk_back m.keys m.kids hl (g.nd h3)
    have : (m.keys.map fun k => (lk m.keys m.kids k).getD zn)[i]? = m.kids[i]? := by rw [hm]
    rw [List.getElem?_map, List.getElem?_eq_getElem hik, List.getElem?_eq_getElem hi] at this
    simp only [Option.map_some, Option.some.injEq] at this
    obtain ⟨v, hv⟩ := lk_some hl (List.getElem_mem hik)
    rw [hv] at this ⊢
    rw [← this]; rfl
  have hkind : m.kids[i].kind = 1 := by
    have hx : ∀ k : List UInt8, m.keys[i] = k → fldB m k [] = true → m.kids[i].kind = 1 := by
      intro k e hf
      unfold fldB getB getV at hf
      rw [← e, hget] at hf
      simpa using hf
    rcases hk _ (List.getElem_mem hik) with e | e
    · exact hx _ e fs.1
    · exact hx _ e fs.2
  exact g.tx _ hy hkind
theorem Gx.iv {m : Node} (g : Gx m) (ho : onlB m [svK, fiK] = true) (hr : rxB m = false) : Iv exK isTx m := by
  obtain ⟨h3, hle, hk⟩ := onl_le ho g.nd
  exact ⟨.inr h3, (fun e => by rw [h3] at e; cases e), g.text h3, g.len h3, g.nd h3, hk, g.kids ho hr⟩
theorem map_self {m : Node} (h3 : m.kind = 3) : mapN m = m := by
  show (⟨3, m.text, m.keys, m.kids⟩ : Node) = m
  rw [← h3]
  exact node_eta m
theorem ext_eq {n : Node} (g : Gx (ex1 n)) : (exV n = rexV n ∧ exE n = (bif rexB n then 0 else 10)) ∧ (rexB n = true → Sf exK isTx (rexV n) ∧ rexV n = sortN 12 (ex1 n) ∧ onlB (ex1 n) [svK, fiK] = true ∧ rxB (ex1 n) = false) := by
  unfold exV exE rexV rexB
  by_cases h3 : (ex1 n).kind = 3
  · rw [ex_fl h3 (g.len h3) (g.nd h3)]
    cases ho : onlB (ex1 n) [svK, fiK] with
    | false => exact ⟨⟨rfl, rfl⟩, fun h => by cases h⟩
    | true =>
      cases hr : rxB (ex1 n) with
      | true => exact ⟨⟨rfl, rfl⟩, fun h => by cases h⟩
      | false =>
        obtain ⟨_, hle, _⟩ := onl_le ho g.nd
        have hb : doneB (ex1 n) true = true := by
          unfold doneB
          rw [Bool.not_true, cond_false, dF (show ¬ (32 : Int) < ((ex1 n).keys.length : Int) by omega)]
          rfl
        have hv : doneV (ex1 n) true = sortN 12 (ex1 n) := by unfold doneV; rw [hb, map_self h3]; rfl
        have hs : sortP 12 (ex1 n) = sortN 12 (ex1 n) := sortP_eq 12 _ g.wg_ g.kd_
        simp only [Bool.not_true, cond_false]
        rw [hb, hv, hs]
        refine ⟨⟨rfl, rfl⟩, fun _ => ⟨?_, rfl, trivial, trivial⟩⟩
        have := (g.iv ho hr).form isTx_s (by omega)
        rwa [map_self h3] at this
  · have ho : onlB (ex1 n) [svK, fiK] = false := by unfold onlB; rw [neT h3]; rfl
    have hf : exFl (ex1 n) = true := by unfold exFl exBd; rw [neT h3]; simp
    rw [ho, hf]
    exact ⟨⟨rfl, rfl⟩, fun h => by cases h⟩
theorem ext_self {m a : Node} (g : Gx m) (ho : onlB m [svK, fiK] = true) (hr : rxB m = false) (ha : a = sortN 12 m) (sf : Sf exK isTx a) : rexV a = a ∧ rexB a = true := by
  have h3 := (onl_le ho g.nd).1
  have iv := g.iv ho hr
  have e1 : ex1 a = a := by unfold ex1; rw [eqF (by rw [sf.kind]; decide)]; rfl
  have hget : ∀ k, get a k = get m k := fun k => by
    rw [ha, get_sort h3 (g.len h3)]
    cases hq : get m k with
    | none => rfl
    | some v =>
      have hm : v ∈ m.kids := by
        have hb : getB m k = true := by unfold getB; rw [hq]; rfl
        have := getV_mem hb
        unfold getV at this
        rw [hq] at this
        exact this
      rw [Option.map_some, isTx_s _ (iv.kid v hm)]
  have hoa : onlB a [svK, fiK] = true := by
    unfold onlB
    rw [neF sf.kind, cond_false, List.all_eq_true]
    intro k hk
    refine inV_iff.2 ?_
    have : exK k := sf.key k hk
    simpa [exK] using this
  have hf : ∀ k o, fldV a k o = fldV m k o ∧ fldB a k o = fldB m k o := fun k o => by
    unfold fldV fldB getB getV
    rw [hget k]
    exact ⟨rfl, rfl⟩
  have hra : rxB a = false := by
    rw [← hr]
    unfold rxB
    rw [(hf svK []).2, (hf fiK xS).2, (hf svK []).1, (hf fiK xS).1]
  unfold rexV rexB
  rw [e1, hoa, hra]
  simp only [Bool.not_true, cond_false]
  exact done_form sf isTx_s sf.text rfl rfl
end Go.Proofs.YtpmknebhacaocaaGreatDoor.Rf