/- Part 1 of a proof: the texts F64 MirA MirB MirC MirD MirE MirF MirG, one behind the other. -/
import Derived.Laws.FloatArith
import Derived.Laws.ComplexArith
import Derived.Maps.AppendAt
import Derived.Below
import Derived.KernelRfl
import Derived.LoopN
import Derived.Orders
import Derived.WalkKit
import Derived.Laws.Entries
import Derived.Laws.Tables
import Derived.Laws.Cover1
import Derived.Laws.Strings
import Derived.WalkLawsBesides
import Derived.Deep.AppendSrc
import Derived.Laws.Concat
import Derived.Lib.Strings
import Derived.Laws.Cover2
import Derived.Laws.BytesArg
import Derived.Laws.StructEq
import Derived.ChangeKeysEq
namespace Go.Proofs.YtiahkjjfhnfdiaaGreatDoor.F64
open Ieee
def Dat (d : Datum) (n : Int) : Prop := ∃ (s : Bool) (m k : Nat), d = .number s m (-(k : Int)) ∧ signed s m 0 = n * 2 ^ k
theorem signed_shift (s : Bool) (m k : Nat) : signed s m k = signed s m 0 * 2 ^ k := by
  unfold signed
  cases s <;> simp [Nat.shiftLeft_eq, Int.neg_mul]
theorem signed_natAbs (T : Int) (b : Bool) : signed (if T = 0 then b else decide (T < 0)) T.natAbs 0 = T := by
  unfold signed
  by_cases h0 : T = 0
  · subst h0; simp
  · rw [if_neg h0]
    by_cases h : T < 0
    · simp [h, Nat.shiftLeft_eq]; omega
    · simp [h, Nat.shiftLeft_eq]; omega
theorem dat_sum {d e : Datum} {a b : Int} (hd : Dat d a) (he : Dat e b) : ∃ f, d.sum e = some f ∧ Dat f (a + b) := by
  obtain ⟨s, m, k, rfl, h1⟩ := hd
  obtain ⟨t, n, j, rfl, h2⟩ := he
  simp only [Datum.sum]
  refine ⟨_, rfl, ?_⟩
  have hb : min (-(k : Int)) (-(j : Int)) = -((max k j : Nat) : Int) := by omega
  rw [hb]
  have e1 : (-(k : Int) - -((max k j : Nat) : Int)).toNat = max k j - k := by omega
  have e2 : (-(j : Int) - -((max k j : Nat) : Int)).toNat = max k j - j := by omega
  rw [e1, e2, signed_shift s m, signed_shift t n, h1, h2]
  have e3 : a * 2 ^ k * 2 ^ (max k j - k) = a * 2 ^ (max k j) := by
    rw [Int.mul_assoc, ← Int.pow_add]; congr 2; omega
  have e4 : b * 2 ^ j * 2 ^ (max k j - j) = b * 2 ^ (max k j) := by
    rw [Int.mul_assoc, ← Int.pow_add]; congr 2; omega
  rw [e3, e4, ← Int.add_mul]
  generalize hT : (a + b) * 2 ^ (max k j) = T
  refine ⟨_, _, max k j, rfl, ?_⟩
  rw [hT]
  exact signed_natAbs T _
theorem dat_order {d e : Datum} {a b : Int} (hd : Dat d a) (he : Dat e b) : d.order e = some (compare a b) := by
  obtain ⟨s, m, k, rfl, h1⟩ := hd
  obtain ⟨t, n, j, rfl, h2⟩ := he
  simp only [Datum.order]
  have hb : min (-(k : Int)) (-(j : Int)) = -((max k j : Nat) : Int) := by omega
  rw [hb]
  have e1 : (-(k : Int) - -((max k j : Nat) : Int)).toNat = max k j - k := by omega
  have e2 : (-(j : Int) - -((max k j : Nat) : Int)).toNat = max k j - j := by omega
  rw [e1, e2, signed_shift s m, signed_shift t n, h1, h2]
  have e3 : a * 2 ^ k * 2 ^ (max k j - k) = a * 2 ^ (max k j) := by
    rw [Int.mul_assoc, ← Int.pow_add]; congr 2; omega
  have e4 : b * 2 ^ j * 2 ^ (max k j - j) = b * 2 ^ (max k j) := by
    rw [Int.mul_assoc, ← Int.pow_add]; congr 2; omega
  rw [e3, e4]
  have hp : (0 : Int) < 2 ^ (max k j) := Int.pow_pos (by omega)
  congr 1
  rw [Int.compare_eq_ite_lt, Int.compare_eq_ite_lt]
  simp only [Int.mul_lt_mul_right hp]
theorem log2_shift (c k : Nat) (hc : c ≠ 0) : (c * 2 ^ k).log2 = c.log2 + k := by
  have hp : 0 < 2 ^ k := Nat.two_pow_pos k
  have hne : c * 2 ^ k ≠ 0 := Nat.mul_ne_zero hc (by omega)
  rw [Nat.log2_eq_iff hne]
  have h1 := Nat.log2_self_le hc
  have h2 := @Nat.lt_log2_self c
  constructor
  · rw [Nat.pow_add]; exact Nat.mul_le_mul_right _ h1
  · rw [show c.log2 + k + 1 = (c.log2 + 1) + k from by omega, Nat.pow_add]; exact Nat.mul_lt_mul_of_pos_right h2 hp
theorem cut_exact (way : Toward) (neg : Bool) (c k : Nat) : way.cut neg (c * 2 ^ k) k = c := by
  unfold Toward.cut
  by_cases hc : c = 0
  · subst hc
    have hg : 0 < 1 <<< min k ((0 * 2 ^ k).log2 + 2) := by rw [Nat.one_shiftLeft]; exact Nat.two_pow_pos _
    generalize 1 <<< min k ((0 * 2 ^ k).log2 + 2) = g at hg
    cases way <;> simp <;> omega
  · rw [log2_shift c k hc, show min k (c.log2 + k + 2) = k from by omega, Nat.one_shiftLeft]
    have hp : 0 < 2 ^ k := Nat.two_pow_pos k
    have h1 : c * 2 ^ k / 2 ^ k = c := Nat.mul_div_cancel _ hp
    have h2 : c * 2 ^ k % 2 ^ k = 0 := Nat.mul_mod_left _ _
    simp only [h1, h2]
    cases way <;> simp <;> omega
theorem signed_mag {s : Bool} {m k : Nat} {a : Int} (h : signed s m 0 = a * 2 ^ k) : m = a.natAbs * 2 ^ k := by
  have := congrArg Int.natAbs h
  rw [Int.natAbs_mul, Int.natAbs_pow] at this
  rw [show (2 : Int).natAbs = 2 from rfl] at this
  rw [← this]
  unfold signed
  cases s <;> simp [Nat.shiftLeft_eq]
theorem dat_toInt {d : Datum} {a : Int} (hd : Dat d a) : d.toInt .zero = some a := by
  obtain ⟨s, m, k, rfl, h1⟩ := hd
  have e1 : (-(-(k : Int))).toNat = k := by omega
  have e2 : (-(k : Int)).toNat = 0 := by omega
  have hm := signed_mag h1
  simp only [Datum.toInt, Datum.integral, e1, e2, Nat.shiftLeft_zero]
  rw [hm, cut_exact]
  subst hm
  congr 1
  have hp : (0 : Int) < 2 ^ k := Int.pow_pos (by omega)
  unfold signed at h1 ⊢
  have hc : ((a.natAbs * 2 ^ k : Nat) : Int) = (a.natAbs : Int) * 2 ^ k := by simp
  cases s
  · simp only [Nat.shiftLeft_zero, Bool.false_eq_true, if_false] at h1 ⊢
    rw [hc] at h1
    exact Int.eq_of_mul_eq_mul_right (by omega) h1
  · simp only [Nat.shiftLeft_zero, if_true] at h1 ⊢
    rw [hc, ← Int.neg_mul] at h1
    exact Int.eq_of_mul_eq_mul_right (by omega) h1
theorem log2_lt {c : Nat} (hc : c < 2 ^ 53) : c.log2 ≤ 52 := by
  by_cases h0 : c = 0
  · subst h0; decide
  · have := (Nat.log2_lt h0).2 hc; omega
theorem least : double.leastPlace = -1074 := by decide
theorem binade52 : double.binade = 2 ^ 52 := rfl
theorem inf52 : double.infRung = 2047 * 2 ^ 52 := rfl
theorem nearest_exact (neg : Bool) (c k : Nat) (hc : c < 2 ^ 53) (h0 : c ≠ 0) :
    double.nearest neg (c * 2 ^ k) (-(k : Int)) = double.word neg ((c.log2 + 1022) * 2 ^ 52 + c * 2 ^ (52 - c.log2)) := by
  have hl := log2_lt hc
  have hp : 0 < 2 ^ k := Nat.two_pow_pos k
  unfold Format.nearest
  rw [if_neg (Nat.mul_ne_zero h0 (by omega)), log2_shift c k h0, least, binade52, inf52]
  have hlast : max (-(k : Int) + ((c.log2 + k : Nat) : Int) - (double.fractionBits : Int)) (-1074) = (c.log2 : Int) - 52 := by
    rw [show (double.fractionBits : Int) = 52 from rfl]; omega
  simp only [hlast]
  have hk : Toward.even.cut neg ((c * 2 ^ k) <<< (-(k : Int) - ((c.log2 : Int) - 52)).toNat) ((c.log2 : Int) - 52 - -(k : Int)).toNat = c * 2 ^ (52 - c.log2) := by
    by_cases hge : k ≤ 52 - c.log2
    · have e1 : (-(k : Int) - ((c.log2 : Int) - 52)).toNat = 52 - c.log2 - k := by omega
      have e2 : ((c.log2 : Int) - 52 - -(k : Int)).toNat = 0 := by omega
      rw [e1, e2, Nat.shiftLeft_eq, Nat.mul_assoc, ← Nat.pow_add, show k + (52 - c.log2 - k) = 52 - c.log2 from by omega]
      have := cut_exact .even neg (c * 2 ^ (52 - c.log2)) 0
      simpa using this
    · have e1 : (-(k : Int) - ((c.log2 : Int) - 52)).toNat = 0 := by omega
      have e2 : ((c.log2 : Int) - 52 - -(k : Int)).toNat = k - (52 - c.log2) := by omega
      rw [e1, e2, Nat.shiftLeft_zero, show k = (52 - c.log2) + (k - (52 - c.log2)) from by omega, Nat.pow_add, ← Nat.mul_assoc,
        show (52 - c.log2) + (k - (52 - c.log2)) - (52 - c.log2) = k - (52 - c.log2) from by omega]
      exact cut_exact .even neg _ _
  rw [hk, show ((c.log2 : Int) - 52 - -1074).toNat = c.log2 + 1022 from by omega]
  have h2 : c * 2 ^ (52 - c.log2) < 2 ^ 53 := by
    have := @Nat.lt_log2_self c
    calc c * 2 ^ (52 - c.log2) < 2 ^ (c.log2 + 1) * 2 ^ (52 - c.log2) := Nat.mul_lt_mul_of_pos_right this (Nat.two_pow_pos _)
      _ = 2 ^ 53 := by rw [← Nat.pow_add]; congr 1; omega
  congr 1
  omega
theorem read_word (neg : Bool) (L m : Nat) (hL : L ≤ 52) (h1 : 2 ^ 52 ≤ m) (h2 : m < 2 ^ 53) :
    double.read (double.word neg ((L + 1022) * 2 ^ 52 + m)) = .number neg m (-((52 - L : Nat) : Int)) := by
  have hs : double.signWeight = 2 ^ 63 := rfl
  unfold Format.read Format.word
  rw [binade52, inf52, least, hs]
  have hneg : ((if neg then 2 ^ 63 + ((L + 1022) * 2 ^ 52 + m) else (L + 1022) * 2 ^ 52 + m) / 2 ^ 63 % 2 == 1) = neg := by
    cases neg <;> simp <;> omega
  have hr : (if neg then 2 ^ 63 + ((L + 1022) * 2 ^ 52 + m) else (L + 1022) * 2 ^ 52 + m) % 2 ^ 63 = (L + 1022) * 2 ^ 52 + m := by
    cases neg <;> simp <;> omega
  simp only [hneg, hr]
  rw [if_neg (by omega), if_pos (by omega)]
  congr 1 <;> omega
theorem read_zero (neg : Bool) : double.read (double.word neg 0) = .number neg 0 (-((1074 : Nat) : Int)) := by
  cases neg <;> decide
def IsF (b : Nat) (n : Int) : Prop := ∃ s : Bool, b = double.nearest s n.natAbs 0 ∧ (n ≠ 0 → s = decide (n < 0))
theorem nearest_zero (s : Bool) (p : Int) : double.nearest s 0 p = double.word s 0 := by unfold Format.nearest; simp
theorem norm_bounds {c : Nat} (hc : c < 2 ^ 53) (h0 : c ≠ 0) : 2 ^ 52 ≤ c * 2 ^ (52 - c.log2) ∧ c * 2 ^ (52 - c.log2) < 2 ^ 53 := by
  have hl := log2_lt hc
  have h1 := Nat.log2_self_le h0
  have h2 := @Nat.lt_log2_self c
  constructor
  · calc 2 ^ 52 = 2 ^ c.log2 * 2 ^ (52 - c.log2) := by rw [← Nat.pow_add]; congr 1; omega
      _ ≤ c * 2 ^ (52 - c.log2) := Nat.mul_le_mul_right _ h1
  · calc c * 2 ^ (52 - c.log2) < 2 ^ (c.log2 + 1) * 2 ^ (52 - c.log2) := Nat.mul_lt_mul_of_pos_right h2 (Nat.two_pow_pos _)
      _ = 2 ^ 53 := by rw [← Nat.pow_add]; congr 1; omega
theorem isf_dat {b : Nat} {n : Int} (h : IsF b n) (hn : n.natAbs < 2 ^ 53) : Dat (double.read b) n := by
  obtain ⟨s, rfl, hs⟩ := h
  by_cases h0 : n = 0
  · subst h0
    rw [show (0 : Int).natAbs = 0 from rfl, nearest_zero, read_zero]
    exact ⟨s, 0, 1074, rfl, by rw [Int.zero_mul]; unfold signed; cases s <;> rfl⟩
  · have h0' : n.natAbs ≠ 0 := by omega
    have e := nearest_exact s n.natAbs 0 hn h0'
    rw [Nat.pow_zero, Nat.mul_one, show -((0 : Nat) : Int) = 0 from rfl] at e
    obtain ⟨h1, h2⟩ := norm_bounds hn h0'
    rw [e, read_word s _ _ (log2_lt hn) h1 h2]
    refine ⟨s, _, _, rfl, ?_⟩
    generalize 52 - n.natAbs.log2 = k
    rw [hs h0]
    unfold signed
    by_cases hlt : n < 0
    · simp [hlt, Nat.shiftLeft_eq]
      rw [← Int.neg_mul]; congr 1; omega
    · simp [hlt, Nat.shiftLeft_eq]
      congr 1; omega
theorem write_isf {d : Datum} {n : Int} (h : Dat d n) (hn : n.natAbs < 2 ^ 53) : IsF (double.write d) n := by
  obtain ⟨s, m, k, rfl, h1⟩ := h
  have hm := signed_mag h1
  subst hm
  refine ⟨s, ?_, fun h0 => ?_⟩
  · show double.nearest s _ _ = _
    by_cases h0 : n = 0
    · subst h0; simp [nearest_zero]
    · have h0' : n.natAbs ≠ 0 := by omega
      rw [nearest_exact s n.natAbs k hn h0']
      have e := nearest_exact s n.natAbs 0 hn h0'
      rw [Nat.pow_zero, Nat.mul_one, show -((0 : Nat) : Int) = 0 from rfl] at e
      exact e.symm
  · have hp : 0 < 2 ^ k := Nat.two_pow_pos k
    have hpi : (0 : Int) < 2 ^ k := Int.pow_pos (by omega)
    unfold signed at h1
    have hc : ((n.natAbs * 2 ^ k : Nat) : Int) = (n.natAbs : Int) * 2 ^ k := by simp
    cases s
    · simp only [Nat.shiftLeft_zero, Bool.false_eq_true, if_false] at h1
      rw [hc] at h1
      have := Int.eq_of_mul_eq_mul_right (by omega) h1
      simp; omega
    · simp only [Nat.shiftLeft_zero, if_true] at h1
      rw [hc, ← Int.neg_mul] at h1
      have := Int.eq_of_mul_eq_mul_right (by omega) h1
      simp; omega
theorem isf_add {x y : Nat} {a b : Int} (hx : IsF x a) (hy : IsF y b) (ha : a.natAbs < 2 ^ 52) (hb : b.natAbs < 2 ^ 52) : ∃ r, floatBits .add .f64 x y = some r ∧ IsF r (a + b) := by
  obtain ⟨f, hf, hd⟩ := dat_sum (isf_dat hx (by omega)) (isf_dat hy (by omega))
  refine ⟨double.write f, ?_, write_isf hd (by omega)⟩
  show double.add x y = _
  unfold Format.add
  rw [hf]; rfl
theorem isf_order {x y : Nat} {a b : Int} (hx : IsF x a) (hy : IsF y b) (ha : a.natAbs < 2 ^ 53) (hb : b.natAbs < 2 ^ 53) : FloatKind.f64.format.order x y = some (compare a b) :=
  dat_order (isf_dat hx ha) (isf_dat hy hb)
theorem isf_ofInt (n : Int) : IsF (floatOfInt .f64 n) n := ⟨decide (n < 0), rfl, fun _ => rfl⟩
theorem isf_toInt {x : Nat} {a : Int} (hx : IsF x a) (ha : a.natAbs < 2 ^ 53) : floatToIntVal .f64 x .i64 = some a := by
  unfold floatToIntVal
  have : (FloatKind.f64.decode x).toInt .zero = some a := dat_toInt (isf_dat hx ha)
  rw [this]
  simp [IntKind.min, IntKind.max, IntKind.signed, IntKind.bits]
  omega
theorem xor_top (r : Nat) (hr : r < 2 ^ 63) : r ^^^ 2 ^ 63 = 2 ^ 63 + r := by
  apply Nat.eq_of_testBit_eq
  intro j
  rw [Nat.testBit_xor, Nat.testBit_two_pow]
  rcases Nat.lt_trichotomy j 63 with h | h | h
  · rw [Nat.testBit_two_pow_add_gt h, show decide (63 = j) = false from decide_eq_false (by omega), Bool.xor_false]
  · subst h
    rw [Nat.testBit_two_pow_add_eq]
    simp
  · have h2 : 2 ^ 64 ≤ 2 ^ j := Nat.pow_le_pow_right (by omega) (by omega)
    rw [Nat.testBit_lt_two_pow (x := r) (by omega), Nat.testBit_lt_two_pow (x := 2 ^ 63 + r) (by omega), show decide (63 = j) = false from decide_eq_false (by omega)]
    rfl
theorem xor_sign (s : Bool) (r : Nat) (hr : r < 2 ^ 63) : double.word s r ^^^ 2 ^ 63 = double.word (!s) r := by
  have hs : double.signWeight = 2 ^ 63 := rfl
  unfold Format.word
  rw [hs]
  have h1 := xor_top r hr
  cases s
  · simpa using h1
  · simp only [if_true, Bool.not_true, Bool.false_eq_true, if_false]
    rw [← h1, Nat.xor_assoc, Nat.xor_self, Nat.xor_zero]
theorem isf_neg {x : Nat} {a : Int} (hx : IsF x a) (ha : a.natAbs < 2 ^ 53) : IsF (Op.negFloat .f64 x) (-a) := by
  obtain ⟨s, rfl, hs⟩ := hx
  refine ⟨!s, ?_, fun h0 => by have := hs (by omega); rw [this]; by_cases h : a < 0 <;> simp [h] <;> omega⟩
  show double.nearest s a.natAbs 0 ^^^ 2 ^ 63 = _
  rw [Int.natAbs_neg]
  by_cases h0 : a = 0
  · subst h0
    rw [show (0 : Int).natAbs = 0 from rfl, nearest_zero, nearest_zero]
    exact xor_sign s 0 (by omega)
  · have h0' : a.natAbs ≠ 0 := by omega
    have e := fun s => nearest_exact s a.natAbs 0 ha h0'
    simp only [Nat.pow_zero, Nat.mul_one, show -((0 : Nat) : Int) = 0 from rfl] at e
    obtain ⟨h1, h2⟩ := norm_bounds ha h0'
    have hl := log2_lt ha
    rw [e, e]
    exact xor_sign s _ (by omega)
#print axioms isf_neg
#print axioms isf_add
#print axioms isf_toInt
def wholeMag (b : Nat) : Nat :=
  bif Nat.beq (b % 2 ^ 63) 0 then 0 else bif Nat.ble 1075 (b % 2 ^ 63 / 2 ^ 52) then (2 ^ 52 + b % 2 ^ 63 % 2 ^ 52) * 2 ^ (b % 2 ^ 63 / 2 ^ 52 - 1075) else (2 ^ 52 + b % 2 ^ 63 % 2 ^ 52) / 2 ^ (1075 - b % 2 ^ 63 / 2 ^ 52)
def whole (b : Nat) : Option Int :=
  bif Nat.beq (double.nearest (Nat.ble (2 ^ 63) b) (wholeMag b) 0) b then some (bif Nat.ble (2 ^ 63) b then -(wholeMag b : Int) else (wholeMag b : Int)) else none
theorem whole_isF {b : Nat} {n : Int} (h : whole b = some n) : IsF b n := by
  unfold whole at h
  generalize wholeMag b = mag at h
  generalize Nat.ble (2 ^ 63) b = neg at h
  cases hb : Nat.beq (double.nearest neg mag 0) b with
  | false => rw [hb] at h; cases h
  | true =>
    rw [hb] at h
    have hb := Nat.eq_of_beq_eq_true hb
    simp only [cond_true, Option.some.injEq] at h
    refine ⟨neg, ?_, fun hn => ?_⟩
    · rw [← hb, ← h]
      cases neg <;> simp
    · subst h
      cases neg with
      | true => simp only [cond_true] at hn ⊢; symm; simp only [decide_eq_true_eq]; omega
      | false => simp only [cond_false] at hn ⊢; symm; simp only [decide_eq_false_iff_not]; omega
end Go.Proofs.YtiahkjjfhnfdiaaGreatDoor.F64
namespace Go.Proofs.YtiahkjjfhnfdiaaGreatDoor.Mir
open Go Go.RowKit
noncomputable section
def look {α : Type} (l : List (Nat × α)) (j : Nat) : Option α :=
  List.rec (motive := fun _ => Option α) none (fun p _ ih => Bool.rec (motive := fun _ => Option α) ih (some p.2) (Nat.beq p.1 j)) l
theorem look_nil {α : Type} (j : Nat) : look ([] : List (Nat × α)) j = none := rfl
theorem look_cons {α : Type} (i j : Nat) (x : α) (r : List (Nat × α)) : look ((i, x) :: r) j = if Nat.beq i j then some x else look r j := by
  show Bool.rec (motive := fun _ => Option α) (look r j) (some x) (Nat.beq i j) = _
  cases Nat.beq i j <;> rfl
inductive DVal {Ty : Type} (Den : Ty → Type) where
  | bool (b : Bool)
  | int (k : IntKind) (n : Int)
  | str (s : List UInt8)
  | raw (v : Value)
  | flt (n : Int)
  | cpx (a b : Int)
  | slice (t : Ty) (l : List (Den t))
inductive AVal {Ty : Type} (Den : Ty → Type) where
  | any
  | d (c : DVal Den)
  | st (t : Ty) (x : Den t)
  | agg (cs : List (AVal Den))
  | tup (vs : List (AVal Den))
  | grow (t : Ty) (l : List (Den t)) (id : Nat)
  | ptr (id off : Nat)
  | pelt (cs : List (DVal Den))
  | row (t : Ty) (n id : Nat)
  | elt (id i off : Nat)
  | fn (f : FuncId) (a b : List (AVal Den))
  | bsl (n id : Nat)
  | mp (id : Nat)
  | yl (id : Nat)
  | mk (T : TypeId) (id : Nat)
  | sd (t : Ty) (l : List (Den t)) (id : Nat)
  | cond (j : Nat) (want : Bool) (v : AVal Den)
def DLe {Ty : Type} {Den : Ty → Type} (c e : DVal Den) : Prop := c = e ∨ (c = .raw (.slice none 0 0) ∧ ∃ t, e = .slice t [])
def CsLe {Ty : Type} {Den : Ty → Type} : List (DVal Den) → List (DVal Den) → Prop
  | [], [] => True
  | a :: as, b :: bs => DLe a b ∧ CsLe as bs
  | _, _ => False
def isAggT (P : Program) (t : TypeId) : Bool := match P.underlying t with | some (.struct _) => true | some (.array _ _) => true | _ => false
structure Env (P : Program) where
  Ty : Type
  dec : DecidableEq Ty
  Den : Ty → Type
  tid : Ty → TypeId
  code : TypeId → Option Ty
  agg : Ty → Bool
  size : Ty → Nat
  bytes : Ty → Nat
  cells : (t : Ty) → Den t → List (DVal Den)
  fold : (t : Ty) → List (DVal Den) → Option (Den t)
  code_ok : ∀ i t, code i = some t → i = tid t
  info_ok : ∀ t, ∃ i z, P.info? (tid t) = some i ∧ i.size = size t ∧ i.bytes = bytes t ∧ i.zero = some z ∧ z.cells.size = size t
  agg_ok : ∀ t, isAggT P (tid t) = agg t
  und_ok : ∀ t, (P.underlying (tid t)).isSome = true
  size_pos : ∀ t, 0 < size t
  bytes_pos : ∀ t, 0 < bytes t
  one : ∀ t, agg t = false → size t = 1
  cells_len : ∀ t x, (cells t x).length = size t
  dflt : (t : Ty) → Den t
  fold_ok : ∀ t cs x, fold t cs = some x → CsLe cs (cells t x)
  byteT : (t : Ty) → Option (Den t → Int)
  byte_ok : ∀ t f, byteT t = some f → ∀ x, cells t x = [.int .u8 (f x)]
  byteU : (t : Ty) → Option (Int → Den t)
  byteU_ok : ∀ t g, byteU t = some g → ∀ n, cells t (g n) = [.int .u8 n]
section
variable {P : Program} (E : Env P) (w : World) (ro : Nat → Nat → Prop)
inductive DRep : Value → DVal E.Den → Prop
  | bool (b : Bool) : DRep (.bool b) (.bool b)
  | int (k : IntKind) (n : Int) : DRep (.int k n) (.int k n)
  | str (s : List UInt8) : DRep (.string ⟨s.toArray⟩) (.str s)
  | raw (v : Value) : v.oneCell' = true → DRep v (.raw v)
  | flt (b : Nat) (n : Int) : F64.IsF b n → DRep (.float .f64 b) (.flt n)
  | cpx (x y : Nat) (a b : Int) : F64.IsF x a → F64.IsF y b → DRep (.complex .f64 x y) (.cpx a b)
  | nil (t : E.Ty) (a : Option Addr) (cap : Nat) : DRep (.slice a 0 cap) (.slice t [])
  | slice (t : E.Ty) (l : List (E.Den t)) (g off cap : Nat) (f : Nat → Nat → Value) : l.length ≤ cap →
      (∀ i x j c, l[i]? = some x → (E.cells t x)[j]? = some c → ro g (off + i * E.size t + j) ∧ w.cell? ⟨g, off + i * E.size t + j, none⟩ = some (f i j)) →
      (∀ i x j c, l[i]? = some x → (E.cells t x)[j]? = some c → DRep (f i j) c) →
      DRep (.slice (some ⟨g, off, none⟩) l.length cap) (.slice t l)
def RowRep (vs : Array Value) (cs : List (DVal E.Den)) : Prop :=
  vs.size = cs.length ∧ ∀ (j : Nat) v c, vs[j]? = some v → cs[j]? = some c → DRep E w ro v c
def TRep (v : Value) (t : E.Ty) (x : E.Den t) : Prop :=
  (E.agg t = true ∧ ∃ vs, v = .agg vs ∧ RowRep E w ro vs (E.cells t x)) ∨ (E.agg t = false ∧ ∃ c, E.cells t x = [c] ∧ DRep E w ro v c)
structure Gh where
  v : Value
  n : Nat
  e : TypeId
  sz : Nat
  blk : Option Nat
variable (ι : Nat → Option Gh)
inductive Rep : Value → AVal E.Den → Prop
  | any (v : Value) : Rep v .any
  | d (v : Value) (c : DVal E.Den) : DRep E w ro v c → Rep v (.d c)
  | st (vs : Array Value) (t : E.Ty) (x : E.Den t) : E.agg t = true → RowRep E w ro vs (E.cells t x) → Rep (.agg vs) (.st t x)
  | agg (vs : Array Value) (cs : List (AVal E.Den)) : vs.size = cs.length → (∀ (j : Nat) v c, vs[j]? = some v → cs[j]? = some c → Rep v c) → Rep (.agg vs) (.agg cs)
  | tup (vs : Array Value) (cs : List (AVal E.Den)) : vs.size = cs.length → (∀ (j : Nat) v c, vs[j]? = some v → cs[j]? = some c → Rep v c) → Rep (.tuple vs) (.tup cs)
  | grow (gh : Gh) (t : E.Ty) (l : List (E.Den t)) (id : Nat) : ι id = some gh → gh.n = l.length → gh.e = E.tid t → gh.sz = E.size t → DRep E w ro gh.v (.slice t l) → Rep gh.v (.grow t l id)
  | ptr (gh : Gh) (g id off : Nat) : ι id = some gh → gh.v = .pointer (some ⟨g, 0, none⟩) → Rep (.pointer (some ⟨g, off, none⟩)) (.ptr id off)
  | pelt (g off : Nat) (f : Nat → Value) (cs : List (DVal E.Den)) :
      (∀ j c, cs[j]? = some c → ro g (off + j) ∧ w.cell? ⟨g, off + j, none⟩ = some (f j)) → (∀ j c, cs[j]? = some c → DRep E w ro (f j) c) →
      Rep (.pointer (some ⟨g, off, none⟩)) (.pelt cs)
  | row (gh : Gh) (t : E.Ty) (id : Nat) (ad : Option Addr) (cap : Nat) : ι id = some gh → gh.e = E.tid t → gh.sz = E.size t → gh.v = .slice ad gh.n cap → (0 < gh.n → ∃ g, ad = some ⟨g, 0, none⟩) → Rep gh.v (.row t gh.n id)
  | elt (gh : Gh) (g id i off cap : Nat) : ι id = some gh → gh.v = .slice (some ⟨g, 0, none⟩) gh.n cap → i < gh.n → Rep (.pointer (some ⟨g, i * gh.sz + off, none⟩)) (.elt id i off)
  | fn (f : FuncId) (vs us : Array Value) (a b : List (AVal E.Den)) : vs.size = a.length → us.size = b.length → (∀ (j : Nat) v c, vs[j]? = some v → a[j]? = some c → Rep v c) → (∀ (j : Nat) v c, us[j]? = some v → b[j]? = some c → Rep v c) → Rep (.func (.func f) vs us) (.fn f a b)
  | bsl (gh : Gh) (g id n cap : Nat) : ι id = some gh → gh.v = .pointer (some ⟨g, 0, none⟩) → Rep (.slice (some ⟨g, 0, none⟩) n cap) (.bsl n id)
  | yl (gh : Gh) (l id : Nat) : ι id = some gh → gh.blk = some l → Rep (.func (.yield l) #[] #[]) (.yl id)
  | mp (gh : Gh) (g id : Nat) : ι id = some gh → gh.v = .map (some g) → Rep (.map (some g)) (.mp id)
  | mk (gh : Gh) (v : Value) (g : Nat) (T : TypeId) (id : Nat) : ι id = some gh → gh.v = .pointer (some ⟨g, 0, none⟩) → gh.e = T → (v = .pointer none ∨ v = .pointer (some ⟨g, 0, none⟩)) → Rep v (.mk T id)
  | sd (gh : Gh) (t : E.Ty) (l : List (E.Den t)) (id : Nat) (ad : Addr) (cap : Nat) : ι id = some gh → gh.v = .slice (some ad) l.length cap → gh.n = l.length → gh.e = E.tid t → gh.sz = E.size t → DRep E w ro gh.v (.slice t l) → Rep (.pointer (some ad)) (.sd t l id)
def SRep (tm : Array Value) (v : Value) : AVal E.Den → Prop
  | .cond j want u => (tm[j]? = some (.bool want) → Rep E w ro ι v u) ∧ (tm[j]? ≠ some (.bool want) → v = undef)
  | x => Rep E w ro ι v x
end
section
variable {P : Program} {E : Env P} {w w' : World} {ro ro' : Nat → Nat → Prop} {ι ι' : Nat → Option Gh}
theorem DRep.mono {v : Value} {c : DVal E.Den} (hr : ∀ k o, ro k o → ro' k o) (hc : ∀ k o, ro k o → w'.cell? ⟨k, o, none⟩ = w.cell? ⟨k, o, none⟩) (h : DRep E w ro v c) : DRep E w' ro' v c := by
  induction h with
  | bool b => exact .bool b
  | int k n => exact .int k n
  | str s => exact .str s
  | raw v h => exact .raw v h
  | flt b n h => exact .flt b n h
  | cpx x y a b h1 h2 => exact .cpx x y a b h1 h2
  | nil t a cap => exact .nil t a cap
  | slice t l g off cap f hl h1 _ ih =>
    refine .slice t l g off cap f hl (fun i x j c hx hj => ?_) ih
    obtain ⟨a, b⟩ := h1 i x j c hx hj
    exact ⟨hr _ _ a, (hc _ _ a).trans b⟩
theorem RowRep.mono {vs : Array Value} {cs : List (DVal E.Den)} (hr : ∀ k o, ro k o → ro' k o) (hc : ∀ k o, ro k o → w'.cell? ⟨k, o, none⟩ = w.cell? ⟨k, o, none⟩) (h : RowRep E w ro vs cs) : RowRep E w' ro' vs cs :=
  ⟨h.1, fun j v c hv hj => (h.2 j v c hv hj).mono hr hc⟩
theorem TRep.mono {v : Value} {t : E.Ty} {x : E.Den t} (hr : ∀ k o, ro k o → ro' k o) (hc : ∀ k o, ro k o → w'.cell? ⟨k, o, none⟩ = w.cell? ⟨k, o, none⟩) (h : TRep E w ro v t x) : TRep E w' ro' v t x := by
  rcases h with ⟨ha, vs, hv, hrow⟩ | ⟨ha, c, hcs, hd⟩
  · exact .inl ⟨ha, vs, hv, hrow.mono hr hc⟩
  · exact .inr ⟨ha, c, hcs, hd.mono hr hc⟩
theorem Rep.mono {v : Value} {c : AVal E.Den} (hr : ∀ k o, ro k o → ro' k o) (hc : ∀ k o, ro k o → w'.cell? ⟨k, o, none⟩ = w.cell? ⟨k, o, none⟩) (hi : ∀ id gh, ι id = some gh → ι' id = some gh)
    (h : Rep E w ro ι v c) : Rep E w' ro' ι' v c := by
  induction h with
  | any v => exact .any v
  | d v c h => exact .d v c (h.mono hr hc)
  | st vs t x ha h => exact .st vs t x ha (h.mono hr hc)
  | agg vs cs hs _ ih => exact .agg vs cs hs ih
  | tup vs cs hs _ ih => exact .tup vs cs hs ih
  | grow gh t l id h1 hn he hs h2 => exact .grow gh t l id (hi _ _ h1) hn he hs (h2.mono hr hc)
  | ptr gh g id off h hv => exact .ptr gh g id off (hi _ _ h) hv
  | pelt g off f cs h1 h2 =>
    refine .pelt g off f cs (fun j c hj => ?_) (fun j c hj => (h2 j c hj).mono hr hc)
    obtain ⟨a, b⟩ := h1 j c hj
    exact ⟨hr _ _ a, (hc _ _ a).trans b⟩
  | row gh t id ad cap h1 h2 h3 h4 h5 => exact .row gh t id ad cap (hi _ _ h1) h2 h3 h4 h5
  | elt gh g id i off cap h1 h2 h3 => exact .elt gh g id i off cap (hi _ _ h1) h2 h3
  | fn f vs us a b h1 h2 _ _ ih1 ih2 => exact .fn f vs us a b h1 h2 ih1 ih2
  | bsl gh g id n cap h1 h2 => exact .bsl gh g id n cap (hi _ _ h1) h2
  | mp gh g id h1 h2 => exact .mp gh g id (hi _ _ h1) h2
  | yl gh l id h1 h2 => exact .yl gh l id (hi _ _ h1) h2
  | mk gh v g T id h1 h2 h3 h4 => exact .mk gh v g T id (hi _ _ h1) h2 h3 h4
  | sd gh t l id ad cap h1 h2 h3 h4 h5 h6 => exact .sd gh t l id ad cap (hi _ _ h1) h2 h3 h4 h5 (h6.mono hr hc)
theorem SRep.mono {tm : Array Value} {v : Value} {c : AVal E.Den} (hr : ∀ k o, ro k o → ro' k o) (hc : ∀ k o, ro k o → w'.cell? ⟨k, o, none⟩ = w.cell? ⟨k, o, none⟩) (hi : ∀ id gh, ι id = some gh → ι' id = some gh)
    (h : SRep E w ro ι tm v c) : SRep E w' ro' ι' tm v c := by
  cases c with
  | cond j want u => exact ⟨fun ht => (h.1 ht).mono hr hc hi, h.2⟩
  | _ => exact Rep.mono hr hc hi h
theorem DLe.rep {v : Value} {c e : DVal E.Den} (h : DLe c e) (hr : DRep E w ro v c) : DRep E w ro v e := by
  rcases h with rfl | ⟨rfl, t, rfl⟩
  · exact hr
  · cases hr
    exact .nil t none 0
theorem CsLe.len {Ty : Type} {Den : Ty → Type} : ∀ {cs ds : List (DVal Den)}, CsLe cs ds → cs.length = ds.length
  | [], [], _ => rfl
  | _ :: _, _ :: _, h => by simp [CsLe.len h.2]
  | [], _ :: _, h => h.elim
  | _ :: _, [], h => h.elim
theorem CsLe.at_ {Ty : Type} {Den : Ty → Type} : ∀ {cs ds : List (DVal Den)}, CsLe cs ds → ∀ (i : Nat) c e, cs[i]? = some c → ds[i]? = some e → DLe c e
  | a :: _, b :: _, h, 0, c, e, hc, he => by
    simp at hc he
    subst hc; subst he
    exact h.1
  | a :: _, b :: _, h, i + 1, c, e, hc, he => CsLe.at_ h.2 i c e (by simpa using hc) (by simpa using he)
  | [], _, _, i, c, e, hc, _ => by simp at hc
  | _ :: _, [], h, _, _, _, _, _ => h.elim
theorem RowRep.le {vs : Array Value} {cs ds : List (DVal E.Den)} (h : CsLe cs ds) (hr : RowRep E w ro vs cs) : RowRep E w ro vs ds := by
  have hl := h.len
  refine ⟨hr.1.trans hl, fun j v e hv he => ?_⟩
  have hj : j < cs.length := by rw [hl]; exact (List.getElem?_eq_some_iff.1 he).1
  exact (h.at_ j _ e (List.getElem?_eq_getElem hj) he).rep (hr.2 j v _ hv (List.getElem?_eq_getElem hj))
end
section
variable {P : Program} {E : Env P} {w : World} {ro : Nat → Nat → Prop} {ι : Nat → Option Gh}
theorem DRep.one {v : Value} {c : DVal E.Den} (h : DRep E w ro v c) : v.oneCell' = true := by
  cases h <;> first | rfl | assumption
theorem Value.cells_one {v : Value} (h : v.oneCell' = true) : v.cells = #[v] := by cases v <;> first | rfl | cases h
end
end
end Go.Proofs.YtiahkjjfhnfdiaaGreatDoor.Mir
namespace Go.Proofs.YtiahkjjfhnfdiaaGreatDoor.Mir
open Go Go.RowKit
noncomputable section
section
variable {P : Program} (E : Env P)
abbrev AV := AVal E.Den
inductive AObj where
  | dead
  | box (cs : List (AV E))
  | tail (live : Bool)
  | row (t : E.Ty) (l : List (E.Den t))
  | mp (K V : TypeId) (l : List (List (DVal E.Den) × List (AV E)))
  | lp (st : LoopState) (pend : Option Code) (n : Nat) (tm : List (Nat × AV E)) (ps : Array Tmp) (assign body : Code)
  | dfr
  /-- a box of cells of one kind, as a list; fz: from now on it is only read -/
  | arr (t : E.Ty) (l : List (E.Den t)) (fz : Bool)
structure ASt where
  n : Nat
  tmps : List (Nat × AV E)
  objs : List (Nat × AObj E)
  next : Nat
structure Res where
  ok : Bool
  v : AV E
  upd : Option (Nat × AObj E)
  new : Option (AObj E)
end
section
variable {P : Program} {E : Env P}
def AObj.live : AObj E → Bool
  | .dead => false
  | .box _ => true
  | .tail l => l
  | .row _ _ => true
  | .mp _ _ _ => true
  | .lp _ _ _ _ _ _ _ => true
  | .dfr => true
  | .arr _ _ _ => true
def Res.pure (v : AV E) : Res E := ⟨true, v, none, none⟩
def Res.test (ok : Bool) (v : AV E) : Res E := ⟨ok, v, none, none⟩
def constS (v : Value) : AV E := match v with
  | .bool b => .d (.bool b)
  | .int k n => .d (.int k n)
  | .string s => .d (.str s.data.toList)
  | .float .f64 b => (match F64.whole b with | some n => .d (.flt n) | none => .d (.raw v))
  | .complex .f64 x y => (match F64.whole x, F64.whole y with | some a, some b => .d (.cpx a b) | _, _ => .d (.raw v))
  | .agg _ => .any
  | .tuple _ => .any
  | v => .d (.raw v)
def constA (v : Value) : AV E := match v with
  | .agg cs => .agg (cs.toList.map constS)
  | v => constS v
def hasAsm : List (Nat × Bool) → Nat → Bool → Bool
  | [], _, _ => false
  | (i, b) :: r, j, w => (Nat.beq i j && (b == w)) || hasAsm r j w
def slotA (asm : List (Nat × Bool)) : Option (AV E) → AV E
  | some (.cond j w u) => if hasAsm asm j w then u else .any
  | some v => v
  | none => .any
def getA (tm : List (Nat × AV E)) (asm : List (Nat × Bool)) : Operand → AV E
  | .tmp t => slotA asm (look tm t)
  | .const v => constA v
  | .func f => .d (.raw (.func (.func f) #[] #[]))
  | .global _ => .any
def cellOk : AV E → Bool
  | .d _ => true
  | .grow _ _ _ => true
  | .ptr _ _ => true
  | .pelt _ => true
  | .row _ _ _ => true
  | .elt _ _ _ => true
  | .fn _ _ _ => true
  | .bsl _ _ => true
  | .mp _ => true
  | .yl _ => true
  | .mk _ _ => true
  | .sd _ _ _ => true
  | _ => false
def allOk : List (AV E) → Bool
  | [] => true
  | c :: r => cellOk c && allOk r
def cellsA : AV E → Option (List (AV E))
  | .st t x => some ((E.cells t x).map .d)
  | .agg cs => if allOk cs then some cs else none
  | v => if cellOk v then some [v] else none
def toD : AV E → Option (DVal E.Den)
  | .d c => some c
  | .grow t l _ => some (.slice t l)
  | _ => none
def toDs : List (AV E) → Option (List (DVal E.Den))
  | [] => some []
  | c :: r => match toD c with
    | some x => match toDs r with
      | some xs => some (x :: xs)
      | none => none
    | none => none
def castD (t t' : E.Ty) (x : E.Den t) : Option (E.Den t') := match E.dec t t' with
  | .isTrue h => some (h ▸ x)
  | .isFalse _ => none
def foldA (t : E.Ty) : AV E → Option (E.Den t)
  | .st t' x => match castD t' t x with
    | some y => some y
    | none => if E.agg t then E.fold t (E.cells t' x) else none
  | .agg cs => if E.agg t then (match toDs cs with | some ds => E.fold t ds | none => none) else none
  | v => if E.agg t then none else (match toD v with | some c => E.fold t [c] | none => none)
def expandA (t : E.Ty) (x : E.Den t) : AV E := if E.agg t then .st t x else match E.cells t x with
  | [c] => .d c
  | _ => .any
def isNil : AV E → Bool
  | .d (.raw (.slice none 0 0)) => true
  | _ => false
def anyNil : List (AV E) → Bool
  | [] => false
  | c :: r => isNil c || anyNil r
def nilIn : AV E → Bool
  | .agg cs => anyNil cs
  | _ => false
def packA (T : TypeId) (v : AV E) : AV E := bif nilIn v then v else (match E.code T with
  | some t => match foldA t v with
    | some x => expandA t x
    | none => v
  | none => v)
def sizeT (P : Program) (T : TypeId) : Option Nat := match P.info? T, P.underlying T with | some i, some _ => some i.size | _, _ => none
def takeA (T : TypeId) (cs : List (AV E)) : Option (AV E) := match sizeT P T with
  | some n => if isAggT P T then (if n ≤ cs.length then some (packA T (.agg (cs.take n))) else none) else cs[0]?
  | none => none
def evLoad (objs : List (Nat × AObj E)) (T : TypeId) (a : AV E) : Option (AV E) := match a with
  | .ptr id off => match look objs id with
    | some (.box cs) => takeA T (cs.drop off)
    | _ => none
  | .pelt cs => takeA T (cs.map .d)
  | .elt id i off => match look objs id with
    | some (.row t l) => takeA T (((E.cells t (l.getD i (E.dflt t))).drop off).map .d)
    | _ => none
  | _ => none
def cell1 (t : E.Ty) (x : E.Den t) : AV E := .d ((E.cells t x).headD (.bool false))
def arrC (t : E.Ty) (l : List (E.Den t)) : List (AV E) := l.map (cell1 t)
def evLoadA (objs : List (Nat × AObj E)) (T : TypeId) (a : AV E) : Option (Bool × AV E) := match a with
  | .ptr id off => (match look objs id with
    | some (.arr t l _) => (match takeA T [cell1 t (l.getD off (E.dflt t))] with
      | some r => some (Nat.blt off l.length, r)
      | none => none)
    | _ => none)
  | _ => none
def evStoreA (objs : List (Nat × AObj E)) (T : TypeId) (a v : AV E) : Option (Bool × Nat × AObj E) := match a with
  | .ptr id off => (match look objs id with
    | some (.arr t l false) => (match cellsA v, sizeT P T with
      | some [c], some 1 => (match toD c with
        | some d => (match E.fold t [d] with
          | some x => some (Nat.blt off l.length, id, .arr t (l.set off x) false)
          | none => none)
        | none => none)
      | _, _ => none)
    | _ => none)
  | _ => none
def evStore (objs : List (Nat × AObj E)) (T : TypeId) (a v : AV E) : Option (Nat × AObj E) := match a with
  | .ptr id off => match look objs id with
    | some (.box cs) => match cellsA v, sizeT P T with
      | some vs, some n => if vs.length = n ∧ off + n ≤ cs.length ∧ allOk vs then some (id, .box (cs.take off ++ vs ++ cs.drop (off + n))) else none
      | _, _ => none
    | _ => none
  | .elt id i off => match look objs id with
    | some (.row t l) => match cellsA v, sizeT P T with
      | some vs, some n => match toDs vs with
        | some ds => if ds.length = n ∧ off + n ≤ E.size t then (match E.fold t ((E.cells t (l.getD i (E.dflt t))).take off ++ ds ++ (E.cells t (l.getD i (E.dflt t))).drop (off + n)) with
          | some x => some (id, .row t (l.set i x))
          | none => none) else none
        | none => none
      | _, _ => none
    | _ => none
  | _ => none
def evField (s : TypeId) (a : AV E) (f : Nat) : Option (AV E) := match P.underlying s with
  | some (.struct fs) => match fs[f]? with
    | some fl => match sizeT P fl.type with
      | some (_ + 1) => match a with
        | .ptr id off => some (.ptr id (off + fl.offset))
        | .pelt cs => some (.pelt (cs.drop fl.offset))
        | .elt id i off => some (.elt id i (off + fl.offset))
        | _ => none
      | _ => none
    | none => none
  | _ => none
def evFieldV (s : TypeId) (x : AV E) (f : Nat) : Option (AV E) := match P.underlying s with
  | some (.struct fs) => match fs[f]? with
    | some fl => match cellsA x with
      | some cs => match x with
        | .st _ _ => takeA fl.type (cs.drop fl.offset)
        | .agg _ => takeA fl.type (cs.drop fl.offset)
        | _ => none
      | none => none
    | none => none
  | _ => none
def zeroCellsA (T : TypeId) : Option (List (AV E)) := match P.info? T with
  | some i => match i.zero with
    | some z => some (z.cells.toList.map constS)
    | none => none
  | none => none
def fillA (place : Nat → Option (Nat × Nat)) (cells : List (AV E)) : List (Nat × AV E) → Option (List (AV E))
  | [] => some cells
  | (i, v) :: rest => match place i with
    | some (off, size) => match cellsA v with
      | some vs => if vs.length = size ∧ off + size ≤ cells.length then fillA place (cells.take off ++ vs ++ cells.drop (off + size)) rest else none
      | none => none
    | none => none
def builtA (T : TypeId) (parts : List (Nat × AV E)) : Option (List (AV E)) := match P.info? T, P.underlying T with
  | some it, some (.array _ e) => match it.zero, P.info? e with
    | some z, some ie => fillA (fun i => some (i * ie.size, ie.size)) (z.cells.toList.map constS) parts
    | _, _ => none
  | some it, some (.struct fields) => match it.zero, fields.toList.mapM (fun f => (P.info? f.type).map fun i => (f.offset, i.size)) with
    | some z, some places => fillA (places.toArray[·]?) (z.cells.toList.map constS) parts
    | _, _ => none
  | _, _ => none
def evBuild (T : TypeId) (parts : List (Nat × AV E)) : Option (AV E) := match builtA T parts with
  | some cs => some (packA T (.agg cs))
  | none => none
def evInt (op : BinOp) (k : IntKind) (a b : Int) : Option (Bool × AV E) := match op with
  | .add => some (true, .d (.int k (k.wrap (a + b))))
  | .sub => some (true, .d (.int k (k.wrap (a - b))))
  | .mul => some (true, .d (.int k (k.wrap (a * b))))
  | .quo => some (!(b == 0), .d (.int k (k.wrap (a.tdiv b))))
  | .rem => some (!(b == 0), .d (.int k (a.tmod b)))
  | .eql => some (true, .d (.bool (a == b)))
  | .neq => some (true, .d (.bool (a != b)))
  | .lss => some (true, .d (.bool (decide (a < b))))
  | .leq => some (true, .d (.bool (decide (a ≤ b))))
  | .gtr => some (true, .d (.bool (decide (b < a))))
  | .geq => some (true, .d (.bool (decide (b ≤ a))))
  | .and => some (true, .d (.int k (bits .and k a b)))
  | .or => some (true, .d (.int k (bits .or k a b)))
  | .xor => some (true, .d (.int k (bits .xor k a b)))
  | .andNot => some (true, .d (.int k (bits .andNot k a b)))
  | _ => none
def maxStr : Nat := 2 ^ 62
def evStr (op : BinOp) (a b : List UInt8) : Option (Bool × AV E) := match op with
  | .add => some (decide (a.length + b.length ≤ maxStr), .d (.str (a ++ b)))
  | .eql => some (true, .d (.bool (a == b)))
  | .neq => some (true, .d (.bool !(a == b)))
  | .lss => some (true, .d (.bool (Op.bytesLess a b)))
  | .leq => some (true, .d (.bool (Op.bytesLess a b || a == b)))
  | .gtr => some (true, .d (.bool !(Op.bytesLess a b || a == b)))
  | .geq => some (true, .d (.bool !(Op.bytesLess a b)))
  | _ => none
def fltOk (n : Int) : Bool := decide (n.natAbs < 9007199254740992)
def sumOk (n : Int) : Bool := decide (n.natAbs < 4503599627370496)
def evFlt (op : BinOp) (a b : Int) : Option (Bool × AV E) := match op with
  | .add => some (sumOk a && sumOk b, .d (.flt (a + b)))
  | .eql => some (fltOk a && fltOk b, .d (.bool (a == b)))
  | .neq => some (fltOk a && fltOk b, .d (.bool (a != b)))
  | .lss => some (fltOk a && fltOk b, .d (.bool (decide (a < b))))
  | .leq => some (fltOk a && fltOk b, .d (.bool (decide (a ≤ b))))
  | .gtr => some (fltOk a && fltOk b, .d (.bool (decide (b < a))))
  | .geq => some (fltOk a && fltOk b, .d (.bool (decide (b ≤ a))))
  | _ => none
def isBoolT (P : Program) (T : TypeId) : Bool := match P.underlying T with | some .bool => true | _ => false
def sameKind (k k' : IntKind) : Bool := decide (k = k')
def evSh (op : BinOp) (k : IntKind) (a b : Int) : Option (Bool × AV E) := match op with
  | .shl => some (decide (0 ≤ b) && decide (b ≤ (k.bits : Int)), .d (.int k (k.wrap (a * 2 ^ b.toNat))))
  | .shr => some (decide (0 ≤ b) && decide (b ≤ (k.bits : Int)), .d (.int k (a / 2 ^ b.toNat)))
  | _ => none
def evBin (op : BinOp) (T : TypeId) (x y : AV E) : Option (Bool × AV E) := match x, y with
  | .d (.int k a), .d (.int k' b) => (match evSh op k a b with
    | some r => some r
    | none => if sameKind k k' then evInt op k a b else none)
  | .d (.str a), .d (.str b) => evStr op a b
  | .d (.flt a), .d (.flt b) => evFlt op a b
  | .d (.cpx a b), .d (.cpx c d) => (match op with
    | .add => some (sumOk a && sumOk c && (sumOk b && sumOk d), .d (.cpx (a + c) (b + d)))
    | .eql => some (fltOk a && fltOk c && (fltOk b && fltOk d), .d (.bool (a == c && b == d)))
    | .neq => some (fltOk a && fltOk c && (fltOk b && fltOk d), .d (.bool !(a == c && b == d)))
    | _ => none)
  | .d (.bool a), .d (.bool b) => if isBoolT P T then (match op with
    | .eql => some (true, .d (.bool (a == b)))
    | .neq => some (true, .d (.bool !(a == b)))
    | _ => none) else none
  | _, _ => none
def evUn (op : UnOp) (x : AV E) : Option (Bool × AV E) := match op, x with
  | .neg, .d (.int k n) => some (true, .d (.int k (k.wrap (0 - n))))
  | .xor, .d (.int k n) => some (true, .d (.int k (bits .xor k (if k.signed then -1 else k.max) n)))
  | .neg, .d (.flt n) => some (fltOk n, .d (.flt (-n)))
  | .not, .d (.bool b) => some (true, .d (.bool !b))
  | _, _ => none
def isIntT (P : Program) (T : TypeId) : Option IntKind := match P.underlying T with | some (.int k) => some k | _ => none
def isF64T (P : Program) (T : TypeId) : Bool := match P.underlying T with | some (.float .f64) => true | _ => false
def isStrT (P : Program) (T : TypeId) : Bool := match P.underlying T with | some .string => true | _ => false
def elemT (P : Program) (T : TypeId) : Option TypeId := match P.underlying T with | some (.slice e) => some e | _ => none
def sliceA (e : TypeId) (x : AV E) : Option ((t : E.Ty) × List (E.Den t)) := match x with
  | .d (.slice t l) => some ⟨t, l⟩
  | .grow t l _ => some ⟨t, l⟩
  | .d (.raw (.slice none 0 0)) => match E.code e with | some t => some ⟨t, []⟩ | none => none
  | _ => none
def isU8 (P : Program) (T : TypeId) : Bool := match P.underlying T with | some (.int .u8) => true | _ => false
def evConvB (src dst : TypeId) (x : AV E) : Option (AV E) := match isStrT P dst, elemT P src with
  | true, some e => (match isU8 P e, sliceA e x with
    | true, some ⟨t, l⟩ => (match E.byteT t with
      | some f => some (.d (.str (l.map fun y => UInt8.ofNat (f y).toNat)))
      | none => none)
    | _, _ => none)
  | _, _ => none
def evConv (src dst : TypeId) (x : AV E) : Option (Bool × AV E) := match x with
  | .d (.int _ n) => (match isIntT P src, isIntT P dst with
    | some _, some k => some (true, .d (.int k (k.wrap n)))
    | some _, none => if isF64T P dst then some (true, .d (.flt n)) else none
    | _, _ => none)
  | .d (.flt n) => (match isIntT P dst with
    | some .i64 => if isF64T P src then some (fltOk n, .d (.int .i64 n)) else none
    | _ => none)
  | x => match evConvB src dst x with
    | some v => some (true, v)
    | none => none
def evLen (T : TypeId) (x : AV E) : Option (AV E) :=
  if isStrT P T then (match x with | .d (.str s) => some (.d (.int .i64 s.length)) | _ => none)
  else match elemT P T with
    | some e => match x with
      | .row _ n _ => some (.d (.int .i64 n))
      | .bsl n _ => some (.d (.int .i64 n))
      | x => match sliceA e x with
        | some ⟨_, l⟩ => some (.d (.int .i64 l.length))
        | none => none
    | none => none
def arrT (P : Program) (T : TypeId) : Option (Nat × TypeId) := match P.underlying T with | some (.array n e) => some (n, e) | _ => none
def evIndexArr (T : TypeId) (x i : AV E) : Option (Bool × AV E) := match arrT P T, i with
  | some (len, e), .d (.int _ n) => match x with
    | .ptr id off => match sizeT P e with
      | some size => if Nat.ble 2 len then some (decide (0 ≤ n) && decide (n < len), .ptr id (off + n.toNat * size)) else none
      | none => none
    | _ => none
  | _, _ => none
def evIndexAddr (T : TypeId) (x i : AV E) : Option (Bool × AV E) := match elemT P T, i with
  | some e, .d (.int _ n) => match x with
    | .row t len id => if Nat.beq (E.tid t) e then some (decide (0 ≤ n) && decide (n < len), .elt id n.toNat 0) else none
    | x => match sliceA e x with
    | some ⟨t, l⟩ => if Nat.beq (E.tid t) e then some (decide (0 ≤ n) && decide (n < l.length), .pelt (E.cells t (l.getD n.toNat (E.dflt t)))) else none
    | none => none
  | _, _ => none
def evIndexBsl (T : TypeId) (x i : AV E) : Option (Bool × AV E) := match elemT P T, i with
  | some e, .d (.int _ k) => (match x with
    | .bsl n id => (match sizeT P e with
      | some size => some (decide (0 ≤ k) && decide (k < n), .ptr id (k.toNat * size))
      | none => none)
    | _ => none)
  | _, _ => none
def evIndex (T : TypeId) (x i : AV E) : Option (Bool × AV E) := if isStrT P T then (match x, i with
  | .d (.str s), .d (.int _ n) => some (decide (0 ≤ n) && decide (n < s.length), .d (.int .u8 (s.getD n.toNat 0).toNat))
  | _, _ => none) else none
def eltsA (e : TypeId) (t : E.Ty) (sz : Nat) : Nat → List (AV E) → Option (List (E.Den t))
  | 0, _ => some []
  | n + 1, cs => match takeA e cs with
    | some v => match foldA t v with
      | some x => match eltsA e t sz n (cs.drop sz) with
        | some xs => some (x :: xs)
        | none => none
      | none => none
    | none => none
def evIndexV (T : TypeId) (x i : AV E) : Option (Bool × AV E) := match arrT P T, i with
  | some (len, e), .d (.int _ n) => match E.code e, sizeT P e, cellsA x with
    | some t, some sz, some cs => match x with
      | .st _ _ => (match eltsA e t sz len cs with
        | some xs => some (decide (0 ≤ n) && decide (n < len), expandA t (xs.getD n.toNat (E.dflt t)))
        | none => none)
      | .agg _ => (match eltsA e t sz len cs with
        | some xs => some (decide (0 ≤ n) && decide (n < len), expandA t (xs.getD n.toNat (E.dflt t)))
        | none => none)
      | _ => none
    | _, _, _ => none
  | _, _ => none
def eqS (T : TypeId) (x y : AV E) : Option (Bool × Bool) := match P.underlying T with
  | some .bool => (match x, y with
    | .d (.bool a), .d (.bool b) => some (true, a == b)
    | _, _ => none)
  | some (.int _) => (match x, y with
    | .d (.int k a), .d (.int k' b) => if sameKind k k' then some (true, a == b) else none
    | _, _ => none)
  | some .string => (match x, y with
    | .d (.str a), .d (.str b) => some (true, a == b)
    | _, _ => none)
  | some (.float _) => (match x, y with
    | .d (.flt a), .d (.flt b) => some (fltOk a && fltOk b, a == b)
    | _, _ => none)
  | some (.complex _) => (match x, y with
    | .d (.cpx a b), .d (.cpx c d) => some (fltOk a && fltOk c && (fltOk b && fltOk d), a == c && b == d)
    | _, _ => none)
  | _ => none
def eqFs (rec : TypeId → AV E → AV E → Option (Bool × Bool)) : List Field → List (AV E) → List (AV E) → Option (Bool × Bool)
  | [], _, _ => some (true, true)
  | f :: r, xs, ys => if f.name = "_" then eqFs rec r xs ys else (match takeA f.type (xs.drop f.offset), takeA f.type (ys.drop f.offset) with
    | some a, some b => match rec f.type a b, eqFs rec r xs ys with
      | some (o1, b1), some (o2, b2) => some (o1 && o2, b1 && b2)
      | _, _ => none
    | _, _ => none)
def eqEs (rec : TypeId → AV E → AV E → Option (Bool × Bool)) (e : TypeId) (sz : Nat) : Nat → List (AV E) → List (AV E) → Option (Bool × Bool)
  | 0, _, _ => some (true, true)
  | n + 1, xs, ys => match takeA e xs, takeA e ys with
    | some a, some b => match rec e a b, eqEs rec e sz n (xs.drop sz) (ys.drop sz) with
      | some (o1, b1), some (o2, b2) => some (o1 && o2, b1 && b2)
      | _, _ => none
    | _, _ => none
def aggC (x : AV E) : Option (List (AV E)) := match x with
  | .st t y => cellsA (.st t y)
  | .agg cs => cellsA (.agg cs)
  | _ => none
def evEq : Nat → TypeId → AV E → AV E → Option (Bool × Bool)
  | 0, _, _, _ => none
  | d + 1, T, x, y => match P.underlying T with
    | some (.struct fs) => (match P.stoodInHeld T, aggC x, aggC y with
      | false, some xs, some ys => eqFs (evEq d) fs.toList xs ys
      | _, _, _ => none)
    | some (.array n e) => (match sizeT P e, aggC x, aggC y with
      | some sz, some xs, some ys => eqEs (evEq d) e sz n xs ys
      | _, _, _ => none)
    | _ => eqS T x y
def evBinEq (op : BinOp) (T : TypeId) (x y : AV E) : Option (Bool × AV E) := match P.eqGuardType P.depth T, aggC x, aggC y with
  | false, some _, some _ => (match op with
    | .eql => (match evEq 8 T x y with | some (o, b) => some (o, .d (.bool b)) | none => none)
    | .neq => (match evEq 8 T x y with | some (o, b) => some (o, .d (.bool !b)) | none => none)
    | _ => none)
  | _, _, _ => none
def isNilS : AV E → Option (Bool × Bool)
  | .d (.raw (.slice none 0 0)) => some (true, true)
  | .d (.slice _ l) => some (!l.isEmpty, false)
  | .grow _ l _ => some (!l.isEmpty, false)
  | .row _ n _ => some (Nat.blt 0 n, false)
  | _ => none
def isNilF : AV E → Option (Bool × Bool)
  | .d (.raw .nilFunc) => some (true, true)
  | .d (.raw (.func _ _ _)) => some (true, false)
  | .fn _ _ _ => some (true, false)
  | _ => none
def isNilM : AV E → Option (Bool × Bool)
  | .d (.raw (.map none)) => some (true, true)
  | .mp _ => some (true, false)
  | _ => none
def isNilP : AV E → Option (Bool × Bool)
  | .d (.raw (.pointer none)) => some (true, true)
  | .ptr _ _ => some (true, false)
  | .pelt _ => some (true, false)
  | .elt _ _ _ => some (true, false)
  | _ => none
def nilOf (T : TypeId) (x y : AV E) : Option (Bool × Bool) := match P.underlying T, y with
  | some (.slice _), .d (.raw (.slice none 0 0)) => isNilS x
  | some (.func _ _ _), .d (.raw .nilFunc) => isNilF x
  | some (.map _ _), .d (.raw (.map none)) => isNilM x
  | some (.pointer _), .d (.raw (.pointer none)) => isNilP x
  | _, _ => none
def evNil (op : BinOp) (T : TypeId) (x y : AV E) : Option (Bool × AV E) := match P.eqGuardType P.depth T, nilOf T x y with
  | false, some (ok, b) => (match op with
    | .eql => some (ok, .d (.bool b))
    | .neq => some (ok, .d (.bool !b))
    | _ => none)
  | _, _ => none
def loA : Option (AV E) → Option Int
  | none => some 0
  | some (.d (.int _ n)) => some n
  | _ => none
def hiA (len : Nat) : Option (AV E) → Option Int
  | none => some len
  | some (.d (.int _ n)) => some n
  | _ => none
def evSlice (T : TypeId) (x : AV E) (lo hi mx : Option (AV E)) : Option (Bool × AV E) := match mx with
  | some _ => none
  | none => if isStrT P T then (match x with
      | .d (.str s) => match loA lo, hiA s.length hi with
        | some l, some h => some (decide (0 ≤ l) && decide (l ≤ h) && decide (h ≤ s.length), .d (.str ((s.drop l.toNat).take (h.toNat - l.toNat))))
        | _, _ => none
      | _ => none)
    else match elemT P T with
      | some e => match sliceA e x with
        | some ⟨t, l⟩ => if Nat.beq (E.tid t) e then (match loA lo, hiA l.length hi with
          | some a, some h => some (decide (0 ≤ a) && decide (a ≤ h) && decide (h ≤ l.length), .d (.slice t ((l.drop a.toNat).take (h.toNat - a.toNat))))
          | _, _ => none) else none
        | none => none
      | none => none
def foldCs (t : E.Ty) : List (DVal E.Den) → Option (List (E.Den t))
  | [] => some []
  | c :: r => match E.fold t [c] with
    | some x => match foldCs t r with
      | some xs => some (x :: xs)
      | none => none
    | none => none
def evSliceA (T : TypeId) (x : AV E) (lo hi mx : Option (AV E)) : Option (Bool × AV E) := match mx, arrT P T, x with
  | none, some (n, e), .pelt cs => (match E.code e with
    | some t => (match E.agg t, Nat.beq cs.length n with
      | false, true => (match foldCs t cs with
        | some l => (match loA lo, hiA n hi with
          | some a, some h => some (decide (0 ≤ a) && decide (a ≤ h) && decide (h ≤ n), .d (.slice t ((l.drop a.toNat).take (h.toNat - a.toNat))))
          | _, _ => none)
        | none => none)
      | _, _ => none)
    | none => none)
  | _, _, _ => none
def evSliceB (objs : List (Nat × AObj E)) (T : TypeId) (x : AV E) (lo hi mx : Option (AV E)) : Option (Bool × AV E) := match mx, arrT P T, x with
  | none, some (n, e), .ptr id 0 => (match look objs id with
    | some (.arr t l true) => (match Nat.beq (E.tid t) e, loA lo, hiA n hi with
      | true, some a, some h => some (Nat.beq l.length n && (decide (0 ≤ a) && decide (a ≤ h) && decide (h ≤ n)), .d (.slice t ((l.drop a.toNat).take (h.toNat - a.toNat))))
      | _, _, _ => none)
    | _ => none)
  | _, _, _ => none
def evExtract (x : AV E) (i : Nat) : Option (AV E) := match x with
  | .tup vs => match vs[i]? with
    | some (.cond _ _ _) => none
    | some v => some v
    | none => none
  | _ => none
def evPick (tm : List (Nat × AV E)) (asm : List (Nat × Bool)) (c a b : Operand) : Option (AV E) := match c, getA tm asm c with
  | .tmp j, .d (.bool x) => match getA tm ((j, true) :: asm) a, getA tm ((j, false) :: asm) b with
    | .d (.bool y), .d (.bool z) => some (.d (.bool (bif x then y else z)))
    | _, _ => none
  | _, _ => none
structure Inl (E : Env P) where
  has : FuncId → Bool
  run : {R : Type} → FuncId → List (AV E) → List (Nat × AObj E) → Nat → (AV E → List (Nat × AObj E) → Nat → Option R) → Option R
def Inl.nil : Inl E := ⟨fun _ => false, fun _ _ _ _ _ => none⟩
abbrev TV (E : Env P) := (t : E.Ty) × E.Den t
inductive Arg (E : Env P) where
  | v (x : TV E)
  | c (f : FuncId) (p q : List (TV E))
inductive ArgP (E : Env P) where
  | v (t : E.Ty)
  | c (f : FuncId) (ps qs : List E.Ty)
structure Oracle (E : Env P) where
  call : FuncId → List (TV E) → Option (Bool × List (TV E))
  isFresh : FuncId → Bool
  isMut : FuncId → Bool
  fresh : FuncId → List (TV E) → Option (Bool × ((t : E.Ty) × List (E.Den t)))
  grow : FuncId → Option E.Ty
  rowf : FuncId → (t : E.Ty) → List (E.Den t) → List (TV E) → Option (Bool × Bool × List (E.Den t))
  inl : Inl E
  /-- strings.Builder's copy check, and the type Builder -/
  cc : Option (FuncId × TypeId) := none
  /-- closed values in, a closed value out -/
  cl : FuncId → List (AV E) → Option (AV E) := fun _ _ => none
  /-- calls that are handed, first, a box of the caller's own: the box's type; what the box holds behind the call, and the results -/
  boxT : FuncId → Option E.Ty := fun _ => none
  /-- calls that are handed functions -/
  cla : FuncId → List (List (ArgP E) × (List (Arg E) → Option (Bool × List (TV E)))) := fun _ => []
  boxf : FuncId → (t : E.Ty) → E.Den t → List (TV E) → Option (Bool × E.Den t × List (TV E)) := fun _ _ _ _ => none
def mkCell (O : Oracle E) (T : TypeId) (nid : Nat) (cs : List (AV E)) : List (AV E) := match O.cc with
  | none => cs
  | some (_, T') => (match Nat.beq T' T, cs with
    | true, .d (.raw (.pointer none)) :: r => .mk T nid :: r
    | _, cs => cs)
def evCallC (O : Oracle E) (objs : List (Nat × AObj E)) (f : FuncId) (args : List (AV E)) : Option (Res E) := match O.cc with
  | none => none
  | some (f', T) => (match Nat.beq f' f, args with
    | true, [.ptr id 0] => (match look objs id with
      | some (.box [.mk T' id', c]) => (match Nat.beq T' T && Nat.beq id' id with
        | true => some ⟨true, .tup [], some (id, .box [.mk T' id', c]), none⟩
        | false => none)
      | _ => none)
    | _, _ => none)
def ptrT (P : Program) (T : TypeId) : Option TypeId := match P.underlying T with | some (.pointer e) => some e | _ => none
def evUStr (objs : List (Nat × AObj E)) (pt : TypeId) (t : E.Ty) (l : List (E.Den t)) (id : Nat) (n : Int) : Option (Res E) := match E.byteT t, look objs id, ptrT P pt with
  | some f, some (.tail true), some e => (match Nat.beq (E.tid t) e with
    | true => some ⟨(n == (l.length : Int)) && !l.isEmpty, .d (.str (l.map fun y => UInt8.ofNat (f y).toNat)), some (id, .dead), none⟩
    | false => none)
  | _, _, _ => none
def foldArgs : List TypeId → List (AV E) → Option (List (TV E))
  | [], [] => some []
  | T :: Ts, v :: vs => match E.code T with
    | some t => match foldA t v with
      | some x => match foldArgs Ts vs with
        | some r => some (⟨t, x⟩ :: r)
        | none => none
      | none => none
    | none => none
  | _, _ => none
def retA : List (TV E) → AV E
  | [⟨t, x⟩] => expandA t x
  | rs => .tup (rs.map fun r => expandA r.1 r.2)
def foldTs : List E.Ty → List (AV E) → Option (List (TV E))
  | [], [] => some []
  | t :: ts, v :: vs => (match foldA t v with
    | some x => (match foldTs ts vs with
      | some r => some (⟨t, x⟩ :: r)
      | none => none)
    | none => none)
  | _, _ => none
def argP : ArgP E → AV E → Option (Arg E)
  | .v t, x => (match foldA t x with
    | some y => some (.v ⟨t, y⟩)
    | none => none)
  | .c f ps qs, .fn f' a b => (match Nat.beq f f', foldTs ps a, foldTs qs b with
    | true, some p, some q => some (.c f p q)
    | _, _, _ => none)
  | .c f [] [], .d (.raw (.func (.func f') ⟨[]⟩ ⟨[]⟩)) => (match Nat.beq f f' with
    | true => some (.c f [] [])
    | false => none)
  | _, _ => none
def argPs : List (ArgP E) → List (AV E) → Option (List (Arg E))
  | [], [] => some []
  | s :: ss, v :: vs => (match argP s v with
    | some x => (match argPs ss vs with
      | some r => some (x :: r)
      | none => none)
    | none => none)
  | _, _ => none
def tryA (args : List (AV E)) : List (List (ArgP E) × (List (Arg E) → Option (Bool × List (TV E)))) → Option (Res E)
  | [] => none
  | p :: r => (match argPs p.1 args with
    | some xs => (match p.2 xs with
      | some (ok, res) => some ⟨ok, retA res, none, none⟩
      | none => tryA args r)
    | none => tryA args r)
def evCallA (O : Oracle E) (f : FuncId) (args : List (AV E)) : Option (Res E) := tryA args (O.cla f)
def foldB (t : E.Ty) (cs : List (AV E)) : Option (E.Den t) := match toDs cs with
  | some ds => E.fold t ds
  | none => none
def evCallX (O : Oracle E) (objs : List (Nat × AObj E)) (f : FuncId) (ts : List TypeId) (args : List (AV E)) : Option (Res E) := match O.boxT f with
  | none => none
  | some t => (match ts, args with
    | _ :: ts, .ptr id 0 :: args => (match look objs id with
      | some (.box cs) => (match foldB t cs with
        | some x => (match foldArgs ts args with
          | some xs => (match O.boxf f t x xs with
            | some (ok, y, res) => some ⟨ok, retA res, some (id, .box ((E.cells t y).map .d)), none⟩
            | none => none)
          | none => none)
        | none => none)
      | _ => none)
    | _, _ => none)
def evCall (O : Oracle E) (nid : Nat) (f : FuncId) (ts : List TypeId) (args : List (AV E)) : Option (Res E) := match foldArgs ts args with
  | some xs => bif O.isFresh f then (match O.fresh f xs with
      | some (ok, ⟨t, l⟩) => some ⟨ok, .row t l.length nid, none, some (.row t l)⟩
      | none => none)
    else (match O.call f xs with
      | some (ok, r) => some ⟨ok, retA r, none, none⟩
      | none => none)
  | none => none
def rowArg (objs : List (Nat × AObj E)) : List (AV E) → Option (Nat × ((t : E.Ty) × List (E.Den t)))
  | [] => none
  | v :: r => match v with
    | .row _ _ id => (match look objs id with
      | some (.row t l) => some (id, ⟨t, l⟩)
      | _ => rowArg objs r)
    | _ => rowArg objs r
def openArg (id : Nat) (t : E.Ty) (l : List (E.Den t)) (v : AV E) : AV E := match v with
  | .row t' n id' => (match Nat.beq id' id with
    | true => .d (.slice t l)
    | false => .row t' n id')
  | v => v
def evCallR (O : Oracle E) (objs : List (Nat × AObj E)) (f : FuncId) (ts : List TypeId) (args : List (AV E)) : Option (Res E) := match rowArg objs args with
  | some (id, ⟨t, l⟩) => (match O.isFresh f with
    | true => none
    | false => match foldArgs ts (args.map (openArg id t l)) with
      | some xs => (match O.call f xs with
        | some (ok, r) => some ⟨ok, retA r, some (id, .dead), none⟩
        | none => none)
      | none => none)
  | none => none
def flatD : DVal E.Den → Bool
  | .bool _ => true
  | .int _ _ => true
  | .str _ => true
  | _ => false
def flatR : List (TV E) → Bool
  | [] => true
  | ⟨t, x⟩ :: r => (E.cells t x).all flatD && flatR r
def openB (objs : List (Nat × AObj E)) (v : AV E) : AV E := match v with
  | .row t n id => (match look objs id with
    | some (.row t' l) => .d (.slice t' l)
    | _ => .row t n id)
  | v => v
def openBV (objs : List (Nat × AObj E)) (v : AV E) : AV E := match v with
  | .agg cs => .agg (cs.map (openB objs))
  | v => openB objs v
def isRow : AV E → Bool
  | .row _ _ _ => true
  | _ => false
def hasRow : List (AV E) → Bool
  | [] => false
  | v :: r => (match v with | .agg cs => cs.any isRow | v => isRow v) || hasRow r
def evCallB (O : Oracle E) (objs : List (Nat × AObj E)) (f : FuncId) (ts : List TypeId) (args : List (AV E)) : Option (Res E) := match hasRow args, O.isFresh f with
  | true, false => (match foldArgs ts (args.map (openBV objs)) with
    | some xs => (match O.call f xs with
      | some (ok, r) => (match flatR r with
        | true => some ⟨ok, retA r, none, none⟩
        | false => none)
      | none => none)
    | none => none)
  | _, _ => none
def dAll : List (AV E) → Option (List (DVal E.Den))
  | [] => some []
  | .d c :: r => (match dAll r with
    | some l => some (c :: l)
    | none => none)
  | _ :: _ => none
def lendP (objs : List (Nat × AObj E)) : List (AV E) → Option (List (AV E))
  | [] => some []
  | .ptr id off :: r => (match look objs id with
    | some (.box cs) => (match dAll cs with
      | some ds => (match lendP objs r with
        | some l => some (.pelt (ds.drop off) :: l)
        | none => none)
      | none => none)
    | _ => none)
  | .d c :: r => (match lendP objs r with
    | some l => some (.d c :: l)
    | none => none)
  | .st t x :: r => (match lendP objs r with
    | some l => some (.st t x :: l)
    | none => none)
  | .agg cs :: r => (match dAll cs, lendP objs r with
    | some _, some l => some (.agg cs :: l)
    | _, _ => none)
  | _ :: _ => none
def keepP (v : AV E) (_ : List (Nat × AObj E)) (_ : Nat) : Option (Res E) := match v with
  | .d c => (match flatD c with
    | true => some ⟨true, .d c, none, none⟩
    | false => none)
  | _ => none
def evCallP (O : Oracle E) (objs : List (Nat × AObj E)) (f : FuncId) (args : List (AV E)) : Option (Res E) := match O.inl.has f with
  | true => (match lendP objs args with
    | some xs => (match O.inl.run f xs [] 0 keepP with
      | some ⟨ok, v, none, none⟩ => some ⟨ok, v, none, none⟩
      | _ => none)
    | none => none)
  | false => none
def clsC : AV E → Option (AV E)
  | .d c => some (.d c)
  | .grow t l _ => some (.d (.slice t l))
  | .pelt cs => some (.pelt cs)
  | .st t x => some (.st t x)
  | _ => none
def clsL : List (AV E) → Option (List (AV E))
  | [] => some []
  | v :: r => (match clsC v with
    | some x => (match clsL r with
      | some l => some (x :: l)
      | none => none)
    | none => none)
def clsA : AV E → Option (AV E)
  | .agg cs => (match clsL cs with
    | some l => some (.agg l)
    | none => none)
  | v => clsC v
def clsAs : List (AV E) → Option (List (AV E))
  | [] => some []
  | v :: r => (match clsA v with
    | some x => (match clsAs r with
      | some l => some (x :: l)
      | none => none)
    | none => none)
def evCallK (O : Oracle E) (f : FuncId) (args : List (AV E)) : Option (Res E) := match clsAs args with
  | some xs => (match O.cl f xs with
    | some v => some ⟨true, v, none, none⟩
    | none => none)
  | none => none
def evCallG (O : Oracle E) (nid : Nat) (f : FuncId) (args : List (AV E)) : Option (Res E) := match O.grow f, args with
  | some t, [.d (.raw (.slice none 0 0)), .d (.int .i64 n)] => some ⟨decide (0 ≤ n) && decide (n * (E.bytes t : Int) ≤ 140737488355328), .row t 0 nid, none, some (.row t [])⟩
  | _, _ => none
def evCallM (O : Oracle E) (objs : List (Nat × AObj E)) (nid : Nat) (f : FuncId) (ts : List TypeId) (args : List (AV E)) : Option (Res E) := match ts, args with
  | _ :: ts, .row _ _ id :: args => (match look objs id with
    | some (.row t l) => (match foldArgs ts args with
      | some xs => (match O.rowf f t l xs with
        | some (ok, true, l') => some ⟨ok, .row t l'.length nid, some (id, .dead), some (.row t l')⟩
        | some (ok, false, l') => some ⟨ok, .any, some (id, .row t l'), none⟩
        | none => none)
      | none => none)
    | _ => none)
  | T :: ts, .d (.raw (.slice none 0 0)) :: args => (match elemT P T with
    | some e => (match E.code e with
      | some t => (match foldArgs ts args with
        | some xs => (match O.rowf f t [] xs with
          | some (ok, true, l') => some ⟨ok, .row t l'.length nid, none, some (.row t l')⟩
          | _ => none)
        | none => none)
      | none => none)
    | none => none)
  | _, _ => none
def maxBytes : Nat := 140737488355328
def castL (t t' : E.Ty) (x : List (E.Den t)) : Option (List (E.Den t')) := match E.dec t t' with
  | .isTrue h => some (h ▸ x)
  | .isFalse _ => none
def evAppend (objs : List (Nat × AObj E)) (nid : Nat) (T : TypeId) (s x : AV E) : Option (Res E) := match elemT P T with
  | some e => match sliceA e x with
    | some ⟨t, l2⟩ => if Nat.beq (E.tid t) e then (match s with
      | .d (.raw (.slice none 0 0)) => some ⟨decide (l2.length * E.bytes t ≤ maxBytes), .grow t l2 nid, none, some (.tail true)⟩
      | .grow t' l1 id => match castL t t' l2, look objs id with
        | some l2', some (.tail true) => some ⟨decide ((l1.length + l2'.length) * E.bytes t' ≤ maxBytes), .grow t' (l1 ++ l2') nid, some (id, .dead), some (.tail true)⟩
        | _, _ => none
      | .row _ _ id => match look objs id with
        | some (.row t' l1) => (match castL t t' l2 with
          | some l2' => some ⟨decide ((l1.length + l2'.length) * E.bytes t' ≤ maxBytes), .row t' (l1.length + l2'.length) nid, some (id, .dead), some (.row t' (l1 ++ l2'))⟩
          | none => none)
        | _ => none
      | _ => none) else none
    | none => none
  | none => none
def evAppendS (objs : List (Nat × AObj E)) (nid : Nat) (T T' : TypeId) (s x : AV E) : Option (Res E) := match isStrT P T', elemT P T with
  | true, some e => (match x with
    | .d (.str l) => (match E.code e with
      | some t => (match E.byteU t with
        | some g => evAppend objs nid T s (.d (.slice t (l.map fun b => g (b.toNat : Int))))
        | none => none)
      | none => none)
    | _ => none)
  | _, _ => none
def evMake (nid : Nat) (T : TypeId) (n c : AV E) : Option (Res E) := match elemT P T with
  | some e => match E.code e, n, c with
    | some t, .d (.int _ n), .d (.int _ c) => match zeroCellsA e with
      | some cs => match toDs cs with
        | some ds => match E.fold t ds with
          | some x => some ⟨decide (0 ≤ n) && decide (n ≤ c) && decide (c * (E.bytes t : Int) ≤ maxBytes), .row t n.toNat nid, none, some (.row t (List.replicate n.toNat x))⟩
          | none => none
        | none => none
      | none => none
    | _, _, _ => none
  | none => none
def evCopy (objs : List (Nat × AObj E)) (T : TypeId) (d s : AV E) : Option (Res E) := match elemT P T with
  | some e => match d, sliceA e s with
    | .row _ _ id, some ⟨t, l2⟩ => match look objs id with
      | some (.row t' l1) => match castL t t' l2 with
        | some l2' => if Nat.beq (E.tid t') e then some ⟨true, .d (.int .i64 (min l1.length l2'.length : Nat)), some (id, .row t' (l2'.take l1.length ++ l1.drop l2'.length)), none⟩ else none
        | none => none
      | _ => none
    | _, _ => none
  | none => none
def mapT (P : Program) (T : TypeId) : Option (TypeId × TypeId) := match P.underlying T with | some (.map k v) => some (k, v) | _ => none
def keyOk (P : Program) {E : Env P} (K : TypeId) : DVal E.Den → Bool
  | .str _ => isStrT P K
  | .int k _ => (match isIntT P K with | some k' => sameKind k k' | none => false)
  | _ => false
def eqKey : DVal E.Den → DVal E.Den → Bool
  | .str a, .str b => a == b
  | .int _ a, .int _ b => a == b
  | _, _ => false
def keysOk (K : TypeId) : List (List (DVal E.Den) × List (AV E)) → Bool
  | [] => true
  | ([c], _) :: r => keyOk P K c && keysOk K r
  | _ => false
def lkpM (c : DVal E.Den) : List (List (DVal E.Den) × List (AV E)) → Nat → Option (Nat × List (AV E))
  | [], _ => none
  | ([d], vs) :: r, i => bif eqKey c d then some (i, vs) else lkpM c r (i + 1)
  | _ :: r, i => lkpM c r (i + 1)
def oneD : AV E → Option (DVal E.Den)
  | .d c => some c
  | _ => none
def evMakeMap (nid : Nat) (T : TypeId) : Option (Res E) := match mapT P T with
  | some (K, V) => some ⟨true, .mp nid, none, some (.mp K V [])⟩
  | none => none
def withOk (ok b : Bool) (v : AV E) : AV E := match ok with
  | true => .tup [v, .d (.bool b)]
  | false => v
def valOk (P : Program) (V : TypeId) (n : Nat) : Bool := match sizeT P V with
  | some m => Nat.beq m n
  | none => false
def zeroShape (P : Program) (V : TypeId) : Bool := match P.info? V with
  | some i => (match i.zero with
    | some (.agg _) => isAggT P V
    | some z => !(isAggT P V) && z.oneCell'
    | none => false)
  | none => false
def evLookup (objs : List (Nat × AObj E)) (T : TypeId) (x i : AV E) (ok : Bool) : Option (AV E) := match mapT P T, x, oneD i with
  | some (K, V), .mp id, some c => (match look objs id with
    | some (.mp _ V' l) => (match keyOk P K c && (keysOk K l && Nat.beq V' V) with
      | true => (match lkpM c l 0 with
        | some (_, vs) => (match valOk P V vs.length, takeA V vs with
          | true, some v => some (withOk ok true v)
          | _, _ => none)
        | none => (match zeroCellsA V with
          | some zs => (match valOk P V zs.length && (zeroShape P V && allOk zs), takeA V zs with
            | true, some v => some (withOk ok false v)
            | _, _ => none)
          | none => none))
      | false => none)
    | _ => none)
  | _, _, _ => none
def evLookupN (T : TypeId) (x i : AV E) (ok : Bool) : Option (AV E) := match mapT P T, x, oneD i with
  | some (K, V), .d (.raw (.map none)), some c => (match keyOk P K c, zeroCellsA V with
    | true, some zs => (match valOk P V zs.length && (zeroShape P V && allOk zs), takeA V zs with
      | true, some v => some (withOk ok false v)
      | _, _ => none)
    | _, _ => none)
  | _, _, _ => none
def isAggA : AV E → Bool
  | .st _ _ => true
  | .agg _ => true
  | _ => false
def setM (c : DVal E.Den) (vs : List (AV E)) (l : List (List (DVal E.Den) × List (AV E))) : List (List (DVal E.Den) × List (AV E)) := match lkpM c l 0 with
  | some (j, _) => l.set j ([c], vs)
  | none => l ++ [([c], vs)]
def evMapSet (objs : List (Nat × AObj E)) (T : TypeId) (m i x : AV E) : Option (Nat × AObj E) := match mapT P T, m, oneD i with
  | some (K, V), .mp id, some c => (match look objs id with
    | some (.mp K' V' l) => (match keyOk P K c && (keysOk K l && (Nat.beq V' V && (isAggA x == isAggT P V))), cellsA x with
      | true, some vs => some (id, .mp K' V' (setM c vs l))
      | _, _ => none)
    | _ => none)
  | _, _, _ => none
def evMin (big : Bool) (T : TypeId) (x y : AV E) : Option (AV E) := match isIntT P T, x, y with
  | some _, .d (.int k a), .d (.int k' b) => if sameKind k k' then some (.d (.int k (bif big then (bif decide (a < b) then b else a) else (bif decide (b < a) then b else a)))) else none
  | _, _, _ => none
def partsD (t : E.Ty) : Nat → List (Nat × AV E) → Option (List (E.Den t))
  | _, [] => some []
  | k, (i, v) :: r => if Nat.beq i k then (match foldA t v with
    | some x => match partsD t (k + 1) r with
      | some xs => some (x :: xs)
      | none => none
    | none => none) else none
def evBuildSlice (T : TypeId) (len : Nat) (parts : List (Nat × AV E)) : Option (AV E) := match elemT P T with
  | some e => match E.code e with
    | some t => match partsD t 0 parts with
      | some xs => if xs.length = len ∧ len * E.size t ≤ 16777216 then some (.d (.slice t xs)) else none
      | none => none
    | none => none
  | none => none
def evBuildBox (nid : Nat) (T : TypeId) (len : Nat) (parts : List (Nat × AV E)) : Option (Res E) := match elemT P T with
  | some e => (match P.info? e with
    | some i => (match i.zero with
      | some z => (match fillA (fun j => some (j * i.size, i.size)) ((List.range (len * i.size)).map fun j => constS (z.cells[j % z.cells.size]!)) parts with
        | some cs => (match Nat.ble (len * i.size) 16777216 && (!(Nat.beq (len * i.size) 0) && allOk cs) with
          | true => some ⟨true, .bsl len nid, none, some (.box cs)⟩
          | false => none)
        | none => none)
      | none => none)
    | none => none)
  | none => none
def mkFn (f : FuncId) (a b : List (AV E)) : AV E := match a, b with
  | [], [] => .d (.raw (.func (.func f) #[] #[]))
  | a, b => .fn f a b
def evBuildEmpty (nid : Nat) (T : TypeId) (len : Nat) (parts : List (Nat × AV E)) : Option (Res E) := match len, parts with
  | 0, [] => (match elemT P T with
    | some e => (match E.code e with
      | some t => some ⟨true, .row t 0 nid, none, some (.row t [])⟩
      | none => none)
    | none => none)
  | _, _ => none
def optA (tm : List (Nat × AV E)) (asm : List (Nat × Bool)) : Option Operand → Option (AV E)
  | none => none
  | some x => some (getA tm asm x)
def partsA (tm : List (Nat × AV E)) (asm : List (Nat × Bool)) (ps : Array (Nat × Operand)) : List (Nat × AV E) := ps.toList.map fun p => (p.1, getA tm asm p.2)
def argsA (tm : List (Nat × AV E)) (asm : List (Nat × Bool)) (ps : Array Operand) : List (AV E) := ps.toList.map (getA tm asm)
def funcOf : AV E → Option FuncId
  | .d (.raw (.func (.func f) ⟨[]⟩ ⟨[]⟩)) => some f
  | _ => none
def calleeA (g : Operand → AV E) : Operand → Option FuncId
  | .func f => some f
  | x => funcOf (g x)
def evOp (O : Oracle E) (S : ASt E) (asm : List (Nat × Bool)) (o : Op) : Option (Res E) :=
  let g := getA S.tmps asm
  match o with
  | .move x => some (.pure (g x))
  | .assign x => some (.pure (g x))
  | .pick c a b => (evPick S.tmps asm c a b).map .pure
  | .alloc T => (match zeroCellsA T with | some cs => if allOk cs then some ⟨true, .ptr S.next 0, none, some (.box (mkCell O T S.next cs))⟩ else none | none => none)
  | .box _ x => (match cellsA (g x) with | some cs => some ⟨true, .ptr S.next 0, none, some (.box cs)⟩ | none => none)
  | .build T ps => (evBuild T (partsA S.tmps asm ps)).map .pure
  | .buildSlice T n ps => (match evBuildEmpty S.next T n (partsA S.tmps asm ps) with
    | some r => some r
    | none => (match evBuildSlice T n (partsA S.tmps asm ps) with
      | some r => some (.pure r)
      | none => evBuildBox S.next T n (partsA S.tmps asm ps)))
  | .makeFunc f x y => (match f with
    | .func f => some (.pure (mkFn f (argsA S.tmps asm x) (argsA S.tmps asm y)))
    | _ => none)
  | .load T a => (match evLoad S.objs T (g a) with
    | some r => some (.pure r)
    | none => (evLoadA S.objs T (g a)).map fun r => .test r.1 r.2)
  | .store T a v => (match evStore S.objs T (g a) (g v) with
    | some u => some ⟨true, .any, some u, none⟩
    | none => (match evStoreA S.objs T (g a) (g v) with
      | some (ok, u) => some ⟨ok, .any, some u, none⟩
      | none => none))
  | .nilCheck x => (match g x with | .ptr id off => some (.pure (.ptr id off)) | .pelt cs => some (.pure (.pelt cs)) | .elt id i off => some (.pure (.elt id i off)) | .fn f a b => some (.pure (.fn f a b)) | _ => none)
  | .makeSlice T n c => evMake S.next T (g n) (g c)
  | .makeMap T none => evMakeMap S.next T
  | .mapUpdate T m i x => (match evMapSet S.objs T (g m) (g i) (g x) with | some u => some ⟨true, .any, some u, none⟩ | none => none)
  | .lookup T x i ok => (match evLookup S.objs T (g x) (g i) ok with
    | some r => some (.pure r)
    | none => (evLookupN T (g x) (g i) ok).map .pure)
  | .binOp op T x y _ => (match evBin op T (g x) (g y) with
    | some r => some (.test r.1 r.2)
    | none => (match evBinEq op T (g x) (g y) with
      | some r => some (.test r.1 r.2)
      | none => (evNil op T (g x) (g y)).map fun r => .test r.1 r.2))
  | .unOp op _ x => (evUn op (g x)).map fun r => .test r.1 r.2
  | .convert s d x => (evConv s d (g x)).map fun r => .test r.1 r.2
  | .fieldAddr s x f => (evField s (g x) f).map .pure
  | .field s x f => (evFieldV s (g x) f).map .pure
  | .indexAddr T x i => (match evIndexAddr T (g x) (g i) with
    | some r => some (.test r.1 r.2)
    | none => (match evIndexArr T (g x) (g i) with
      | some r => some (.test r.1 r.2)
      | none => (evIndexBsl T (g x) (g i)).map fun r => .test r.1 r.2))
  | .index T x i => (match evIndex T (g x) (g i) with
    | some r => some (.test r.1 r.2)
    | none => (evIndexV T (g x) (g i)).map fun r => .test r.1 r.2)
  | .slice T x l h m => (match evSlice T (g x) (optA S.tmps asm l) (optA S.tmps asm h) (optA S.tmps asm m) with
    | some r => some (.test r.1 r.2)
    | none => (match evSliceA T (g x) (optA S.tmps asm l) (optA S.tmps asm h) (optA S.tmps asm m) with
      | some r => some (.test r.1 r.2)
      | none => (evSliceB S.objs T (g x) (optA S.tmps asm l) (optA S.tmps asm h) (optA S.tmps asm m)).map fun r => .test r.1 r.2))
  | .extract x i => (evExtract (g x) i).map .pure
  | .call c => match c.callee with
    | .builtin .len => (match argsA S.tmps asm c.args, c.argTypes.toList with
      | [x], [T] => (evLen T x).map .pure
      | _, _ => none)
    | .builtin .append => (match argsA S.tmps asm c.args, c.argTypes.toList with
      | [s, x], [T, T'] => if Nat.beq T T' then evAppend S.objs S.next T s x else evAppendS S.objs S.next T T' s x
      | _, _ => none)
    | .builtin .unsafeSliceData => (match argsA S.tmps asm c.args with
      | [.grow t l id] => some (.test (!l.isEmpty) (.sd t l id))
      | [.d (.raw (.slice none 0 0))] => some (.pure (.d (.raw (.pointer none))))
      | _ => none)
    | .builtin .unsafeString => (match argsA S.tmps asm c.args, c.argTypes.toList with
      | [.sd t l id, .d (.int .i64 n)], [pt, _] => evUStr S.objs pt t l id n
      | [.d (.raw (.pointer none)), .d (.int .i64 n)], [_, _] => some (.test (n == 0) (.d (.str [])))
      | _, _ => none)
    | .builtin .real => (match argsA S.tmps asm c.args with
      | [.d (.cpx a _)] => some (.pure (.d (.flt a)))
      | _ => none)
    | .builtin .imag => (match argsA S.tmps asm c.args with
      | [.d (.cpx _ b)] => some (.pure (.d (.flt b)))
      | _ => none)
    | .builtin .complex => (match argsA S.tmps asm c.args with
      | [.d (.flt a), .d (.flt b)] => some (.pure (.d (.cpx a b)))
      | _ => none)
    | .builtin .copy => (match argsA S.tmps asm c.args, c.argTypes.toList with
      | [d, s], [T, T'] => if Nat.beq T T' then evCopy S.objs T d s else none
      | _, _ => none)
    | .builtin .min => (match argsA S.tmps asm c.args, c.argTypes.toList with
      | [x, y], [T, _] => (evMin false T x y).map .pure
      | _, _ => none)
    | .builtin .max => (match argsA S.tmps asm c.args, c.argTypes.toList with
      | [x, y], [T, _] => (evMin true T x y).map .pure
      | _, _ => none)
    | .value x => (match calleeA g x with
      | some f => (match evCallA O f (argsA S.tmps asm c.args) with
        | some r => some r
        | none => (match evCallX O S.objs f c.argTypes.toList (argsA S.tmps asm c.args) with
        | some r => some r
        | none => (match evCallC O S.objs f (argsA S.tmps asm c.args) with
        | some r => some r
        | none => (match evCallG O S.next f (argsA S.tmps asm c.args) with
        | some r => some r
        | none => (match evCallM O S.objs S.next f c.argTypes.toList (argsA S.tmps asm c.args) with
        | some r => some r
        | none => (match evCallB O S.objs f c.argTypes.toList (argsA S.tmps asm c.args) with
          | some r => some r
          | none => (match evCallR O S.objs f c.argTypes.toList (argsA S.tmps asm c.args) with
            | some r => some r
            | none => (match evCallP O S.objs f (argsA S.tmps asm c.args) with
              | some r => some r
              | none => (match evCallK O f (argsA S.tmps asm c.args) with
                | some r => some r
                | none => evCall O S.next f c.argTypes.toList (argsA S.tmps asm c.args))))))))))
      | none => (match g x with
        | .fn f p q => evCallA O f (p ++ (argsA S.tmps asm c.args ++ q))
        | _ => none))
    | _ => none
  | _ => none
end
section
variable {P : Program} (E : Env P)
def dV : DVal E.Den → Value
  | .bool b => .bool b
  | .int k n => .int k n
  | .str s => .string ⟨s.toArray⟩
  | _ => undef
def kV : List (DVal E.Den) → Value
  | [c] => dV E c
  | cs => .agg (cs.map (dV E)).toArray
def OwnT (w : World) (gh : Gh) (xs : List Value) : Prop :=
  (w.ownsRow 0 gh.e gh.sz gh.v gh.n xs ∧ gh.blk = gh.v.ownBlock) ∨ (gh.n = 0 ∧ xs = [] ∧ gh.blk = none ∧ ∃ ad, gh.v = .slice ad 0 0)
def RowD (w : World) (ro : Nat → Nat → Prop) (t : E.Ty) (xs : List Value) (l : List (E.Den t)) : Prop :=
  ∀ (i : Nat) x (j : Nat) c, l[i]? = some x → (E.cells t x)[j]? = some c → ∃ u, xs[i * E.size t + j]? = some u ∧ DRep E w ro u c
def ObjOk (w : World) (ro : Nat → Nat → Prop) (ι : Nat → Option Gh) (id : Nat) : AObj E → Prop
  | .dead => True
  | .box cs => ∃ gh g vs e, ι id = some gh ∧ gh.v = .pointer (some ⟨g, 0, none⟩) ∧ gh.blk = some g ∧ w.heap[g]? = some (.cells vs e (0, 0)) ∧ vs.size = cs.length ∧
      (∀ (j : Nat) v c, vs[j]? = some v → cs[j]? = some c → v.oneCell' = true ∧ Rep E w ro ι v c) ∧ (∀ o, ¬ ro g o) ∧ gh.e = e
  | .tail live => live = true → ∃ gh xs, ι id = some gh ∧ OwnT w gh xs ∧ ∀ g, gh.blk = some g → ∀ o, gh.n * gh.sz ≤ o → ¬ ro g o
  | .row t l => ∃ gh xs, ι id = some gh ∧ gh.n = l.length ∧ gh.e = E.tid t ∧ gh.sz = E.size t ∧ OwnT w gh xs ∧ RowD E w ro t xs l ∧ ∀ g, gh.blk = some g → ∀ o, ¬ ro g o
  | .mp _ V l => ∃ gh g es, ι id = some gh ∧ gh.v = .map (some g) ∧ gh.blk = some g ∧ w.heap[g]? = some (.map es l.length) ∧ es.size = l.length ∧
      (∀ (j : Nat) e x, es[j]? = some e → l[j]? = some x → e.key = kV E x.1 ∧ (e.born = j ∧ (isAggT P V = true → ∃ cs, e.val = .agg cs) ∧ (isAggT P V = false → e.val.oneCell' = true)) ∧ e.val.cells.size = x.2.length ∧ ∀ (i : Nat) v c, e.val.cells[i]? = some v → x.2[i]? = some c → v.oneCell' = true ∧ Rep E w ro ι v c)
  | .lp st pend n tm ps assign body => ∃ gh g rec, ι id = some gh ∧ gh.blk = some g ∧ w.heap[g]? = some (.loop rec) ∧ (rec.state = st ∧ rec.pending = pend ∧ rec.params = ps ∧ rec.assign = assign ∧ rec.body = body ∧ rec.tmps.size = n) ∧ ∀ t x, look tm t = some x → ∃ v, rec.tmps[t]? = some v ∧ Rep E w ro ι v x
  | .dfr => ∃ gh g, ι id = some gh ∧ gh.blk = some g ∧ w.heap[g]? = some (.deferred (some []))
  | .arr t l fz => E.agg t = false ∧ ∃ gh g vs e, ι id = some gh ∧ gh.v = .pointer (some ⟨g, 0, none⟩) ∧ gh.blk = some g ∧ w.heap[g]? = some (.cells vs e (0, 0)) ∧ vs.size = (arrC t l).length ∧
      (∀ (j : Nat) v c, vs[j]? = some v → (arrC t l)[j]? = some c → v.oneCell' = true ∧ Rep E w ro ι v c) ∧ ((fz = false → ∀ o, ¬ ro g o) ∧ (fz = true → ∀ o, o < l.length → ro g o)) ∧ gh.e = e
def TmOk (w : World) (ro : Nat → Nat → Prop) (ι : Nat → Option Gh) (a : Act) (tm : List (Nat × AV E)) : Prop :=
  ∀ t x, look tm t = some x → ∃ v, a.tmps[t]? = some v ∧ SRep E w ro ι a.tmps v x
structure Keep where
  w : World
  ro : Nat → Nat → Prop
  ι : Nat → Option Gh
structure Start where
  w : World
  x : Option Nat
  k : Option Keep
  /-- the deferred calls of the activation that is walked -/
  dl : List Deferred := []
  /-- blocks that nobody touches -/
  h : Nat → Option Obj := fun _ => none
abbrev Start.heap (s : Start) := s.w.heap
structure Base (w0 : Start) (ro0 : Nat → Nat → Prop) (a : Act) (w : World) (ι : Nat → Option Gh) (ro : Nat → Nat → Prop) : Prop where
  below : w0.w.grownBy w w0.x
  rolt : ∀ k o, ro k o → k < w.heap.size
  ronew : ∀ k o, ro k o → ro0 k o ∨ w0.heap.size ≤ k ∨ w0.x = some k
  ilt : ∀ id gh k, ι id = some gh → gh.blk = some k → (w0.heap.size ≤ k ∨ w0.x = some k) ∧ k < w.heap.size
  defers : a.defers = w0.dl
  keep : ∀ q, w0.k = some q → (∀ k o, q.ro k o → ro k o ∧ w.cell? ⟨k, o, none⟩ = q.w.cell? ⟨k, o, none⟩) ∧ ∀ id gh, q.ι id = some gh → ι id = some gh
  held : ∀ k o, w0.h k = some o → w.heap[k]? = some o ∧ ∀ id gh, ι id = some gh → gh.blk ≠ some k
def Inj (objs : List (Nat × AObj E)) (ι : Nat → Option Gh) : Prop :=
  ∀ (id id' : Nat) o o' gh gh' k, look objs id = some o → look objs id' = some o' → o.live = true → o'.live = true → ι id = some gh → ι id' = some gh' → gh.blk = some k → gh'.blk = some k → id = id'
structure Gam (w0 : Start) (ro0 : Nat → Nat → Prop) (S : ASt E) (a : Act) (w : World) (ι : Nat → Option Gh) (ro : Nat → Nat → Prop) : Prop where
  base : Base w0 ro0 a w ι ro
  size : a.tmps.size = S.n
  tmps : TmOk E w ro ι a S.tmps
  objs : ∀ (id : Nat) o, look S.objs id = some o → ObjOk E w ro ι id o
  inj : Inj E S.objs ι
  fresh : ∀ id, S.next ≤ id → ι id = none
  ids : ∀ id o, look S.objs id = some o → id < S.next
structure OpPost (w w' : World) (ι ι' : Nat → Option Gh) (ro ro' : Nat → Nat → Prop) (nid : Nat) (r : Res E) (val : Value) : Prop where
  os : w'.os = w.os
  tape : w'.tape = w.tape
  output : w'.output = w.output
  size : w.heap.size ≤ w'.heap.size
  frame : ∀ k, k < w.heap.size → (∀ id o gh, r.upd = some (id, o) → ι id = some gh → gh.blk ≠ some k) → w'.heap[k]? = w.heap[k]?
  cell : ∀ k o, ro k o → w'.cell? ⟨k, o, none⟩ = w.cell? ⟨k, o, none⟩
  mono : ∀ k o, ro k o → ro' k o
  rolt : ∀ k o, ro' k o → k < w'.heap.size
  fresh : ∀ k o, ro' k o → ro k o ∨ w.heap.size ≤ k ∨ ∃ id ob gh, r.upd = some (id, ob) ∧ ι id = some gh ∧ gh.blk = some k
  iold : ∀ id, id ≠ nid → ι' id = ι id
  inew : ∀ gh k, ι' nid = some gh → gh.blk = some k → k < w'.heap.size ∧ (w.heap.size ≤ k ∨ ∃ id ob gh0, r.upd = some (id, ob) ∧ ob.live = false ∧ ι id = some gh0 ∧ gh0.blk = some k)
  nonew : r.new = none → ι' = ι
  upd : ∀ id o, r.upd = some (id, o) → ObjOk E w' ro' ι' id o
  new : ∀ o, r.new = some o → ObjOk E w' ro' ι' nid o
  val : Rep E w' ro' ι' val r.v
end
section
variable {P : Program} {E : Env P}
theorem OpPost.pure {w : World} {ι : Nat → Option Gh} {ro : Nat → Nat → Prop} {nid : Nat} {r : Res E} {val : Value} (hu : r.upd = none) (hn : r.new = none) (hlt : ∀ k o, ro k o → k < w.heap.size) (hi : ι nid = none)
    (hv : Rep E w ro ι val r.v) : OpPost E w w ι ι ro ro nid r val where
  os := rfl
  tape := rfl
  output := rfl
  size := Nat.le_refl _
  frame := fun _ _ _ => rfl
  cell := fun _ _ _ => rfl
  mono := fun _ _ h => h
  rolt := hlt
  fresh := fun _ _ h => .inl h
  iold := fun _ _ => rfl
  inew := fun gh k h => by rw [hi] at h; cases h
  nonew := fun _ => rfl
  upd := fun id o h => by rw [hu] at h; cases h
  new := fun o h => by rw [hn] at h; cases h
  val := hv
end
end
end Go.Proofs.YtiahkjjfhnfdiaaGreatDoor.Mir
namespace Go.Proofs.YtiahkjjfhnfdiaaGreatDoor.Mir
open Go Go.RowKit
noncomputable section
section
variable {P : Program} {E : Env P} {w : World} {ro : Nat → Nat → Prop} {ι : Nat → Option Gh}
def AsmOk (a : Act) (asm : List (Nat × Bool)) : Prop := ∀ j b, hasAsm asm j b = true → a.tmps[j]? = some (.bool b)
theorem toList_str (s : ByteArray) : (⟨s.data.toList.toArray⟩ : ByteArray) = s := by simp
theorem constS_rep (v : Value) : Rep E w ro ι v (constS v) := by
  cases v with
  | bool b => exact .d _ _ (.bool b)
  | int k n => exact .d _ _ (.int k n)
  | string s => exact .d _ _ (by have := DRep.str (E := E) (w := w) (ro := ro) s.data.toList; rw [toList_str] at this; exact this)
  | agg cs => exact .any _
  | tuple cs => exact .any _
  | float k b =>
    cases k with
    | f32 => exact .d _ _ (.raw _ rfl)
    | f64 =>
      show Rep E w ro ι (.float .f64 b) (match F64.whole b with | some n => .d (.flt n) | none => .d (.raw (.float .f64 b)))
      cases h : F64.whole b with
      | none => exact .d _ _ (.raw _ rfl)
      | some n => exact .d _ _ (.flt b n (F64.whole_isF h))
  | complex k x y =>
    cases k with
    | f32 => exact .d _ _ (.raw _ rfl)
    | f64 =>
      show Rep E w ro ι (.complex .f64 x y) (match F64.whole x, F64.whole y with | some a, some b => .d (.cpx a b) | _, _ => .d (.raw (.complex .f64 x y)))
      cases h1 : F64.whole x with
      | none => exact .d _ _ (.raw _ rfl)
      | some a =>
        cases h2 : F64.whole y with
        | none => exact .d _ _ (.raw _ rfl)
        | some b => exact .d _ _ (.cpx x y a b (F64.whole_isF h1) (F64.whole_isF h2))
  | _ => exact .d _ _ (.raw _ rfl)
theorem constA_rep (v : Value) : Rep E w ro ι v (constA v) := by
  cases v with
  | agg cs =>
    refine .agg cs _ (by simp) (fun j v c hv hc => ?_)
    have hc' : (cs.toList.map (constS (E := E)))[j]? = some c := hc
    rw [List.getElem?_map] at hc'
    have : cs.toList[j]? = some v := by simpa using hv
    rw [this] at hc'
    simp at hc'
    subst hc'
    exact constS_rep v
  | _ => exact constS_rep _
theorem getA_rep {a : Act} {tm : List (Nat × AV E)} {asm : List (Nat × Bool)} (ht : TmOk E w ro ι a tm) (hs : AsmOk a asm) (x : Operand) : Rep E w ro ι (a.eval x) (getA tm asm x) := by
  cases x with
  | const v => exact constA_rep v
  | global g => exact .any _
  | func f => exact .d _ _ (.raw _ rfl)
  | tmp t =>
    show Rep E w ro ι (a.tmps.getD t undef) (slotA asm (look tm t))
    cases hx : look tm t with
    | none => exact .any _
    | some x =>
      obtain ⟨v, hv, h⟩ := ht t x hx
      have e : a.tmps.getD t undef = v := by simp [Array.getD_eq_getD_getElem?, hv]
      rw [e]
      cases x with
      | cond j b u =>
        show Rep E w ro ι v (if hasAsm asm j b then u else .any)
        by_cases hb : hasAsm asm j b = true
        · rw [if_pos hb]; exact h.1 (hs j b hb)
        · rw [if_neg hb]; exact .any _
      | _ => exact h
def OpDone (E : Env P) (o : Oper) (a : Act) (w : World) (ι : Nat → Option Gh) (ro : Nat → Nat → Prop) (nid : Nat) (r : Res E) : Prop :=
  (∃ val w' ι' ro', (execOp a.eval o).run P w = .ok (.value val) w' ∧ OpPost E w w' ι ι' ro ro' nid r val) ∨
  (∃ w' ι' ro', (execOp a.eval o).run P w = .ok .skip w' ∧ OpPost E w w' ι ι' ro ro' nid r undef) ∨
  (∃ f args, (execOp a.eval o).run P w = .ok (.enter f args) w ∧ Calls P f args w fun e w' => ∃ val ι' ro', e = .returned val ∧ OpPost E w w' ι ι' ro ro' nid r val)
theorem OpDone.wp {o : Oper} {a : Act} {nid : Nat} {r : Res E} {K : Act → World → Prop} {Q : Exit → Act → World → Prop} (h : OpDone E o a w ι ro nid r)
    (hK : ∀ val w' ι' ro', OpPost E w w' ι ι' ro ro' nid r val → K (a.put o.dst val) w') : o.wp P a w K Q := by
  unfold Oper.wp
  rcases h with ⟨val, w', ι', ro', hr, hp⟩ | ⟨w', ι', ro', hr, hp⟩ | ⟨f, args, hr, hc⟩
  · rw [hr]; exact hK _ _ _ _ hp
  · rw [hr]; exact hK _ _ _ _ hp
  · rw [hr]
    refine hc.mono fun e w' he => ?_
    obtain ⟨val, ι', ro', rfl, hp⟩ := he
    exact hK _ _ _ _ hp
theorem OpDone.pure {o : Oper} {a : Act} {nid : Nat} {r : Res E} {val : Value} (hlt : ∀ k o, ro k o → k < w.heap.size) (hi : ι nid = none) (hr : (execOp a.eval o).run P w = .ok (.value val) w)
    (hu : r.upd = none) (hn : r.new = none) (hv : Rep E w ro ι val r.v) : OpDone E o a w ι ro nid r :=
  .inl ⟨val, w, ι, ro, hr, .pure hu hn hlt hi hv⟩
theorem Rep.bool_inv {v : Value} {b : Bool} (h : Rep E w ro ι v (.d (.bool b))) : v = .bool b := by
  cases h with | d _ _ h => cases h; rfl
theorem Rep.int_inv {v : Value} {k : IntKind} {n : Int} (h : Rep E w ro ι v (.d (.int k n))) : v = .int k n := by
  cases h with | d _ _ h => cases h; rfl
theorem Rep.flt_inv {v : Value} {n : Int} (h : Rep E w ro ι v (.d (.flt n))) : ∃ b, v = .float .f64 b ∧ F64.IsF b n := by
  cases h with | d _ _ h => cases h with | flt b _ h => exact ⟨b, rfl, h⟩
theorem Rep.cpx_inv {v : Value} {a b : Int} (h : Rep E w ro ι v (.d (.cpx a b))) : ∃ x y, v = .complex .f64 x y ∧ F64.IsF x a ∧ F64.IsF y b := by
  cases h with | d _ _ h => cases h with | cpx x y _ _ h1 h2 => exact ⟨x, y, rfl, h1, h2⟩
theorem Rep.str_inv {v : Value} {s : List UInt8} (h : Rep E w ro ι v (.d (.str s))) : v = .string ⟨s.toArray⟩ := by
  cases h with | d _ _ h => cases h; rfl
theorem Rep.raw_inv {v u : Value} (h : Rep E w ro ι v (.d (.raw u))) : v = u := by
  cases h with | d _ _ h => cases h; rfl
theorem cellOk_one {v : Value} {c : AV E} (hc : cellOk c = true) (h : Rep E w ro ι v c) : v.oneCell' = true := by
  cases h with
  | any v => cases hc
  | d v c h => exact h.one
  | st => cases hc
  | agg => cases hc
  | tup => cases hc
  | grow gh t l id h1 _ _ _ h2 => exact h2.one
  | ptr => rfl
  | pelt => rfl
  | row gh t id ad cap _ _ _ h => rw [h]; rfl
  | elt => rfl
  | fn => rfl
  | bsl => rfl
  | mp => rfl
  | yl => rfl
  | mk gh v g T id _ _ _ h => rcases h with rfl | rfl <;> rfl
  | sd => rfl
theorem toD_rep {v : Value} {x : AV E} {c : DVal E.Den} (h : Rep E w ro ι v x) (hc : toD x = some c) : DRep E w ro v c := by
  cases h with
  | d v c' h => cases hc; exact h
  | grow gh t l id _ _ _ _ h => cases hc; exact h
  | _ => cases hc
theorem toDs_len : ∀ {cs : List (AV E)} {ds : List (DVal E.Den)}, toDs cs = some ds → ds.length = cs.length
  | [], ds, h => by cases h; rfl
  | c :: r, ds, h => by
    unfold toDs at h
    cases hc : toD c with
    | none => rw [hc] at h; cases h
    | some x =>
      cases hr : toDs r with
      | none => rw [hc, hr] at h; cases h
      | some xs =>
        rw [hc, hr] at h
        cases h
        simp [toDs_len hr]
theorem toDs_at : ∀ {cs : List (AV E)} {ds : List (DVal E.Den)}, toDs cs = some ds → ∀ (j : Nat) c e, cs[j]? = some c → ds[j]? = some e → toD c = some e
  | [], _, _, j, c, _, hj, _ => by simp at hj
  | c :: r, ds, h, j, c', e, hj, he => by
    unfold toDs at h
    cases hc : toD c with
    | none => rw [hc] at h; cases h
    | some x =>
      cases hr : toDs r with
      | none => rw [hc, hr] at h; cases h
      | some xs =>
        rw [hc, hr] at h
        cases h
        cases j with
        | zero =>
          simp at hj he
          subst hj; subst he
          exact hc
        | succ j => exact toDs_at hr j c' e (by simpa using hj) (by simpa using he)
theorem castD_rep {v : Value} {t t' : E.Ty} {x : E.Den t} {y : E.Den t'} (h : castD t t' x = some y) (hr : TRep E w ro v t x) : TRep E w ro v t' y := by
  unfold castD at h
  cases hd : E.dec t t' with
  | isFalse hn => rw [hd] at h; cases h
  | isTrue he =>
    rw [hd] at h
    subst he
    cases h
    exact hr
theorem single_of_len {α : Type} {l : List α} (h : l.length = 1) : ∃ x, l = [x] := by
  match l, h with
  | [x], _ => exact ⟨x, rfl⟩
theorem foldD_rep {v : Value} {t : E.Ty} {c : DVal E.Den} {y : E.Den t} (ha : E.agg t = false) (hf : E.fold t [c] = some y) (hd : DRep E w ro v c) : TRep E w ro v t y := by
  have hle := E.fold_ok t _ _ hf
  obtain ⟨c', hc'⟩ := single_of_len ((E.cells_len t y).trans (E.one t ha))
  rw [hc'] at hle
  exact .inr ⟨ha, c', hc', hle.1.rep hd⟩
theorem foldA_rep {v : Value} {t : E.Ty} {x : AV E} {y : E.Den t} (h : Rep E w ro ι v x) (hf : foldA t x = some y) : TRep E w ro v t y := by
  have scalar : ∀ c, toD x = some c → (if E.agg t then none else (match toD x with | some c => E.fold t [c] | none => none)) = some y → TRep E w ro v t y := by
    intro c hc hf
    by_cases ha : E.agg t = true
    · rw [if_pos ha] at hf; cases hf
    · rw [if_neg ha, hc] at hf
      exact foldD_rep (by simpa using ha) hf (toD_rep h hc)
  cases h with
  | st vs t' x' ha hrow =>
    change (match castD t' t x' with | some y => some y | none => if E.agg t then E.fold t (E.cells t' x') else none) = some y at hf
    cases hc : castD t' t x' with
    | some y' =>
      rw [hc] at hf
      cases hf
      exact castD_rep hc (.inl ⟨ha, vs, rfl, hrow⟩)
    | none =>
      rw [hc] at hf
      by_cases hat : E.agg t = true
      · simp only [if_pos hat] at hf
        exact .inl ⟨hat, vs, rfl, RowRep.le (E.fold_ok t _ _ hf) hrow⟩
      · simp only [if_neg hat] at hf
        cases hf
  | agg vs cs hs hi =>
    change (if E.agg t then (match toDs cs with | some ds => E.fold t ds | none => none) else none) = some y at hf
    by_cases ha : E.agg t = true
    · rw [if_pos ha] at hf
      cases hd : toDs cs with
      | none => rw [hd] at hf; cases hf
      | some ds =>
        rw [hd] at hf
        refine .inl ⟨ha, vs, rfl, RowRep.le (E.fold_ok t _ _ hf) ⟨hs.trans (toDs_len hd).symm, fun j u e hu he => ?_⟩⟩
        have hj : j < cs.length := by rw [← toDs_len hd]; exact (List.getElem?_eq_some_iff.1 he).1
        have hcj := List.getElem?_eq_getElem hj
        exact toD_rep (hi j u _ hu hcj) (toDs_at hd j _ e hcj he)
    · rw [if_neg ha] at hf; cases hf
  | d v c hd => exact scalar c rfl hf
  | grow gh t' l id h1 hn he hs hd => exact scalar _ rfl hf
  | any v => change (if E.agg t then none else none) = some y at hf; split at hf <;> cases hf
  | tup vs cs => change (if E.agg t then none else none) = some y at hf; split at hf <;> cases hf
  | ptr => change (if E.agg t then none else none) = some y at hf; split at hf <;> cases hf
  | pelt => change (if E.agg t then none else none) = some y at hf; split at hf <;> cases hf
  | row => change (if E.agg t then none else none) = some y at hf; split at hf <;> cases hf
  | elt => change (if E.agg t then none else none) = some y at hf; split at hf <;> cases hf
  | fn => change (if E.agg t then none else none) = some y at hf; split at hf <;> cases hf
  | bsl => change (if E.agg t then none else none) = some y at hf; split at hf <;> cases hf
  | mp => change (if E.agg t then none else none) = some y at hf; split at hf <;> cases hf
  | yl => change (if E.agg t then none else none) = some y at hf; split at hf <;> cases hf
  | mk => change (if E.agg t then none else none) = some y at hf; split at hf <;> cases hf
  | sd => change (if E.agg t then none else none) = some y at hf; split at hf <;> cases hf
theorem expandA_rep {v : Value} {t : E.Ty} {x : E.Den t} (h : TRep E w ro v t x) : Rep E w ro ι v (expandA t x) := by
  unfold expandA
  rcases h with ⟨ha, vs, rfl, hrow⟩ | ⟨ha, c, hc, hd⟩
  · rw [if_pos ha]; exact .st vs t x ha hrow
  · rw [if_neg (by simp [ha]), hc]; exact .d _ _ hd
theorem packA_rep {v : Value} {T : TypeId} {x : AV E} (h : Rep E w ro ι v x) : Rep E w ro ι v (packA T x) := by
  unfold packA
  cases nilIn x with
  | true => exact h
  | false =>
  simp only [cond_false]
  cases E.code T with
  | none => exact h
  | some t =>
    cases hf : foldA t x with
    | none => simp only [hf]; exact h
    | some y => simp only [hf]; exact expandA_rep (foldA_rep h hf)
theorem allOk_at : ∀ {cs : List (AV E)}, allOk cs = true → ∀ (j : Nat) c, cs[j]? = some c → cellOk c = true
  | [], _, j, c, h => by simp at h
  | x :: r, ha, j, c, h => by
    unfold allOk at ha
    simp at ha
    cases j with
    | zero => simp at h; subst h; exact ha.1
    | succ j => exact allOk_at ha.2 j c (by simpa using h)
theorem cellsA_rep {v : Value} {x : AV E} {cs : List (AV E)} (h : Rep E w ro ι v x) (hc : cellsA x = some cs) :
    v.cells.size = cs.length ∧ ∀ (j : Nat) u c, v.cells[j]? = some u → cs[j]? = some c → u.oneCell' = true ∧ Rep E w ro ι u c := by
  have single : cellOk x = true → cs = [x] → v.cells.size = cs.length ∧ ∀ (j : Nat) u c, v.cells[j]? = some u → cs[j]? = some c → u.oneCell' = true ∧ Rep E w ro ι u c := by
    intro hk hcs
    have h1 := cellOk_one hk h
    rw [Value.cells_one h1, hcs]
    refine ⟨rfl, fun j u c hu hj => ?_⟩
    cases j with
    | zero => simp at hu hj; subst hu; subst hj; exact ⟨h1, h⟩
    | succ j => simp at hj
  cases h with
  | st vs t x ha hrow =>
    cases hc
    refine ⟨by simpa [Value.cells] using hrow.1, fun j u c hu hj => ?_⟩
    rw [List.getElem?_map] at hj
    cases he : (E.cells t x)[j]? with
    | none => rw [he] at hj; cases hj
    | some e =>
      rw [he] at hj
      cases hj
      have hd := hrow.2 j u e (by simpa [Value.cells] using hu) he
      exact ⟨hd.one, .d _ _ hd⟩
  | agg vs cs' hs hi =>
    change (if allOk cs' then some cs' else none) = some cs at hc
    by_cases hk : allOk cs' = true
    · rw [if_pos hk] at hc
      cases hc
      refine ⟨hs, fun j u c hu hj => ?_⟩
      have hr := hi j u c (by simpa [Value.cells] using hu) hj
      exact ⟨cellOk_one (allOk_at hk j c hj) hr, hr⟩
    · rw [if_neg hk] at hc; cases hc
  | d v c hd => cases hc; exact single rfl rfl
  | grow gh t l id h1 hn he hs hd => cases hc; exact single rfl rfl
  | ptr gh g id off h hv => cases hc; exact single rfl rfl
  | pelt g off f cs' h1 h2 => cases hc; exact single rfl rfl
  | row => cases hc; exact single rfl rfl
  | elt => cases hc; exact single rfl rfl
  | fn => cases hc; exact single rfl rfl
  | bsl => cases hc; exact single rfl rfl
  | mp => cases hc; exact single rfl rfl
  | yl => cases hc; exact single rfl rfl
  | mk => cases hc; exact single rfl rfl
  | sd => cases hc; exact single rfl rfl
  | any v => cases hc
  | tup vs cs => cases hc
theorem add_none (g off j : Nat) : (⟨g, off, none⟩ : Addr).add j = ⟨g, off + j, none⟩ := by
  unfold Addr.add
  split <;> simp_all
theorem run_isAgg {T : TypeId} {d : TypeDesc} (h : P.underlying T = some d) : (isAgg T).run P w = .ok (isAggT P T) w := by
  unfold isAgg isAggT
  rw [h]
  cases d <;> simp [run_underlying h]
theorem sizeT_inv {T : TypeId} {n : Nat} (h : sizeT P T = some n) : ∃ i d, P.info? T = some i ∧ P.underlying T = some d ∧ i.size = n := by
  unfold sizeT at h
  cases hi : P.info? T with
  | none => rw [hi] at h; cases h
  | some i =>
    cases hd : P.underlying T with
    | none => rw [hi, hd] at h; cases h
    | some d => rw [hi, hd] at h; cases h; exact ⟨i, d, rfl, rfl, rfl⟩
theorem run_sizeOf {T : TypeId} {i : TypeInfo} (h : P.info? T = some i) : (sizeOf T).run P w = .ok i.size w := by simp [sizeOf, typeInfo, h]
theorem run_loadVar_rep {T : TypeId} {cs : List (AV E)} {r : AV E} {g off : Nat} (hcs : ∀ (j : Nat) c, cs[j]? = some c → ∃ u, w.cell? ⟨g, off + j, none⟩ = some u ∧ Rep E w ro ι u c) (ht : takeA T cs = some r) :
    ∃ val, (loadVar T ⟨g, off, none⟩).run P w = .ok val w ∧ Rep E w ro ι val r := by
  unfold takeA at ht
  cases hsz : sizeT P T with
  | none => rw [hsz] at ht; cases ht
  | some n =>
    obtain ⟨i, d, hi, hd, hn⟩ := sizeT_inv hsz
    rw [hsz] at ht
    simp only at ht
    by_cases ha : isAggT P T = true
    · rw [if_pos ha] at ht
      by_cases hle : n ≤ cs.length
      · rw [if_pos hle] at ht
        cases ht
        let f : Nat → Value := fun j => ((w.cell? ⟨g, off + j, none⟩).getD undef)
        have hf : ∀ j, j < n → w.cell? ((⟨g, off, none⟩ : Addr).add j) = some (f j) := by
          intro j hj
          obtain ⟨u, hu, _⟩ := hcs j _ (List.getElem?_eq_getElem (show j < cs.length by omega))
          rw [add_none]
          simp [f, hu]
        have hrun := run_loadCells (P := P) w ⟨g, off, none⟩ n f hf
        refine ⟨.agg ((List.range n).map f).toArray, ?_, packA_rep (.agg _ _ (by simp; omega) (fun j v c hv hc => ?_))⟩
        · unfold loadVar
          simp [run_isAgg hd, ha, run_sizeOf hi, hn, hrun]
        · have hj : j < n := by have := (List.getElem?_eq_some_iff.1 hc).1; simp at this; omega
          have hc' : cs[j]? = some c := by rw [List.getElem?_take_of_lt hj] at hc; exact hc
          obtain ⟨u, hu, hr⟩ := hcs j c hc'
          have hv' : v = u := by
            simp [hj] at hv
            rw [← hv]
            simp [f, hu]
          rw [hv']; exact hr
      · rw [if_neg hle] at ht; cases ht
    · rw [if_neg ha] at ht
      obtain ⟨u, hu, hr⟩ := hcs 0 r ht
      refine ⟨u, ?_, hr⟩
      unfold loadVar
      simp at hu
      simp [run_isAgg hd, ha, run_load, hu]
end
end
end Go.Proofs.YtiahkjjfhnfdiaaGreatDoor.Mir
namespace Go.Proofs.YtiahkjjfhnfdiaaGreatDoor.Mir
open Go Go.RowKit
noncomputable section
section
variable {P : Program} {E : Env P} {w : World} {ro : Nat → Nat → Prop} {ι : Nat → Option Gh}
theorem run_append_room_at (t tx ty e : TypeId) (i : TypeInfo) (ht : P.underlying t = some (.slice e)) (hi : P.info? e = some i) (g n cap : Nat) (cur : Array Value) (hg : w.heap[g]? = some (.cells cur e (0, 0)))
    (x : Value) (m : Nat) (news : List Value) (hs : Src P i.size tx x m news w) (hroom : n + m ≤ cap) (hfit : n * i.size + news.length ≤ cur.size) :
    (Builtin.append_ #[t, tx] ty #[.slice (some ⟨g, 0, none⟩) n cap, x]).run P w = .ok (.slice (some ⟨g, 0, none⟩) (n + m) cap) (w.setRow g (cur.toList.take (n * i.size) ++ news ++ cur.toList.drop (n * i.size + news.length)).toArray) := by
  have hst := run_storeCells_at P g (n * i.size) e news 0 cur w hg (by simpa using hfit) hs.one
  simp only [Nat.add_zero] at hst
  rcases hs.kind with ⟨e', hk⟩ | hk <;> simp [Builtin.append_, run_underlying ht, run_underlying hk, sizeOf, typeInfo, hi, hs.len, hroom, hs.cells, Addr.add_lit, hst]
theorem run_append_kept (t tx ty e : TypeId) (i : TypeInfo) (z : Value) (ht : P.underlying t = some (.slice e)) (hi : P.info? e = some i) (hz : i.zero = some z) (hzs : z.cells.size = i.size)
    (v : Value) (n : Nat) (xs : List Value) (hown : w.ownsRow 0 e i.size v n xs) (x : Value) (m : Nat) (news : List Value) (hs : Src P i.size tx x m news w)
    (h63 : n + m ≤ maxLen) (hbytes : (n + m) * i.bytes ≤ 140737488355328) :
    ∃ v' w', (Builtin.append_ #[t, tx] ty #[v, x]).run P w = .ok v' w' ∧ w'.ownsRow 0 e i.size v' (n + m) (xs ++ news) ∧ w.grownBy w' v.ownBlock ∧
      (v'.ownBlock = v.ownBlock ∨ v'.ownBlock = some w.heap.size) ∧ ∀ g, v.ownBlock = some g → ∀ j u, xs[j]? = some u → w'.cell? ⟨g, j, none⟩ = some u := by
  have hsmall : n + m ≤ 9223372036854775807 := by simp only [maxLen] at h63; omega
  have hl := hs.newsLen
  have hlen : (xs ++ news).length = (n + m) * i.size := by rw [List.length_append, hown.1, hl, Nat.add_mul]
  have grown : ∀ (old : Nat), ∀ (row : Option Nat),
      (w.drew.alloc (.cells ((xs ++ news).toArray ++ Builtin.zeroCells z.cells (grownCap w (n + m) old e - (n + m))) e)).ownsRow 0 e i.size
        (.slice (some ⟨w.heap.size, 0, none⟩) (n + m) (grownCap w (n + m) old e)) (n + m) (xs ++ news) ∧
      w.grownBy (w.drew.alloc (.cells ((xs ++ news).toArray ++ Builtin.zeroCells z.cells (grownCap w (n + m) old e - (n + m))) e)) row := by
    intro old row
    have hge := grownCap_ge w (n + m) old e
    have hcm : grownCap w (n + m) old e ≤ maxLen := grownCap_le_maxLen w (n + m) old e h63
    refine ⟨⟨hlen, .inr ⟨w.heap.size, _, _, rfl, Nat.zero_le _, heap_alloc_new w.drew _, hge, hcm, ?_, ?_⟩⟩, ⟨rfl, rfl, rfl, by simp, fun k hk _ => heap_alloc_old w.drew _ hk⟩⟩
    · simp only [Array.size_append, List.size_toArray, size_zeroCells, hzs, hlen, ← Nat.add_mul]
      congr 1
      omega
    · simp only [Array.toList_append]
      rw [← hlen]
      exact List.take_left
  rcases hown.2 with ⟨rfl, rfl⟩ | ⟨g, cap, cur, rfl, hbg, hg, hnc, hcm, hcs, htake⟩
  · have hx : xs = [] := List.eq_nil_of_length_eq_zero (by simpa using hown.1)
    subst hx
    by_cases hm : m = 0
    · subst hm
      have hn : news = [] := List.eq_nil_of_length_eq_zero (by simpa using hl)
      subst hn
      refine ⟨.slice none 0 0, w, ?_, by simpa using hown, ⟨rfl, rfl, rfl, Nat.le_refl _, fun _ _ _ => rfl⟩, .inl rfl, fun g hg j u hu => by simp at hu⟩
      have hc := hs.cells
      have hlz := hs.len
      rcases hs.kind with ⟨e', hk⟩ | hk <;> simp [Builtin.append_, run_underlying ht, run_underlying hk, sizeOf, typeInfo, hi, hlz, hc]
    · have hb := hbytes
      simp only [Nat.zero_add] at hb
      have hr := run_append_grow_src (P := P) w t tx ty e i z ht hi hz none 0 0 [] (by simp [Builtin.firstCells]) x m news hs (by omega) (by omega) (growslice_fits (by omega) (by simpa using hb))
      have hgr := grown 0 (Value.ownBlock (.slice none 0 0))
      exact ⟨_, _, hr, hgr.1, hgr.2, .inr rfl, fun g hg => by simp [Value.ownBlock] at hg⟩
  · by_cases hroom : n + m ≤ cap
    · have hfit : n * i.size + news.length ≤ cur.size := by rw [hl, hcs, ← Nat.add_mul]; exact Nat.mul_le_mul_right _ hroom
      have hr := run_append_room_at t tx ty e i ht hi g n cap cur hg x m news hs hroom hfit
      refine ⟨_, _, hr, ⟨hlen, .inr ⟨g, cap, _, rfl, hbg, setRow_heap w g cur _ e _ hg, hroom, hcm, ?_, ?_⟩⟩, ⟨rfl, rfl, rfl, by simp, fun k _ hk => setRow_other w g k _ (fun e => hk (by simp [Value.ownBlock, e]))⟩, .inl rfl, fun g' hg' j u hu => ?_⟩
      · simp only [List.size_toArray, List.length_append, List.length_take, List.length_drop, Array.length_toList]
        omega
      · rw [htake, ← hlen]
        exact List.take_left
      · simp [Value.ownBlock] at hg'
        subst hg'
        rw [cell_setRow_same w g j cur _ e _ hg, htake]
        have hj : j < xs.length := (List.getElem?_eq_some_iff.1 hu).1
        simp [List.getElem?_append_left, hj]
        rw [List.getElem?_eq_getElem hj] at hu
        simpa using hu
    · have holds : ∀ j u, xs[j]? = some u → w.cell? ((⟨g, 0, none⟩ : Addr).add j) = some u := hown.cells (g := g) rfl
      have hr := run_append_grow_src (P := P) w t tx ty e i z ht hi hz (some ⟨g, 0, none⟩) n cap xs (run_firstCells_some (P := P) w.drew i.size n ⟨g, 0, none⟩ n cap xs hown.1 (by simpa using holds)) x m news hs (by omega) (by omega) (growslice_fits (by omega) hbytes)
      have hgr := grown cap (Value.ownBlock (.slice (some ⟨g, 0, none⟩) n cap))
      refine ⟨_, _, hr, hgr.1, hgr.2, .inr rfl, fun g' hg' j u hu => ?_⟩
      simp [Value.ownBlock] at hg'
      subst hg'
      have hlt : g < w.heap.size := (Array.getElem?_eq_some_iff.1 hg).1
      have := holds j u hu
      rw [add_none, Nat.zero_add] at this
      rw [← this]
      exact World.cell?_of_block (heap_alloc_old w.drew _ hlt)
theorem run_append_gen (t tx ty e : TypeId) (i : TypeInfo) (z : Value) (ht : P.underlying t = some (.slice e)) (hi : P.info? e = some i) (hz : i.zero = some z) (hzs : z.cells.size = i.size)
    (v : Value) (n : Nat) (xs : List Value) (b : Option Nat) (hown : (w.ownsRow 0 e i.size v n xs ∧ b = v.ownBlock) ∨ (n = 0 ∧ xs = [] ∧ b = none ∧ ∃ ad, v = .slice ad 0 0))
    (x : Value) (m : Nat) (news : List Value) (hs : Src P i.size tx x m news w)
    (h63 : n + m ≤ maxLen) (hbytes : (n + m) * i.bytes ≤ 140737488355328) :
    ∃ v' w' b', (Builtin.append_ #[t, tx] ty #[v, x]).run P w = .ok v' w' ∧ ((w'.ownsRow 0 e i.size v' (n + m) (xs ++ news) ∧ b' = v'.ownBlock) ∨ (n + m = 0 ∧ xs ++ news = [] ∧ b' = none ∧ ∃ ad, v' = .slice ad 0 0)) ∧
      w.grownBy w' b ∧ (b' = b ∨ b' = some w.heap.size) ∧ ∀ g, b = some g → ∀ j u, xs[j]? = some u → w'.cell? ⟨g, j, none⟩ = some u := by
  have hl := hs.newsLen
  rcases hown with ⟨hown, rfl⟩ | ⟨rfl, rfl, rfl, ad, rfl⟩
  · obtain ⟨v', w', h1, h2, h3, h4, h5⟩ := run_append_kept t tx ty e i z ht hi hz hzs v n xs hown x m news hs h63 hbytes
    exact ⟨v', w', _, h1, .inl ⟨h2, rfl⟩, h3, h4, h5⟩
  · cases ad with
    | none =>
      obtain ⟨v', w', h1, h2, h3, h4, h5⟩ := run_append_kept t tx ty e i z ht hi hz hzs (.slice none 0 0) 0 [] (World.ownsRow_nil w 0 e i.size) x m news hs h63 hbytes
      exact ⟨v', w', _, h1, .inl ⟨h2, rfl⟩, h3, h4, fun g hg => by cases hg⟩
    | some A =>
      by_cases hm : m = 0
      · subst hm
        have hn : news = [] := List.eq_nil_of_length_eq_zero (by simpa using hl)
        subst hn
        refine ⟨.slice (some A) 0 0, w, none, ?_, .inr ⟨rfl, rfl, rfl, _, rfl⟩, ⟨rfl, rfl, rfl, Nat.le_refl _, fun _ _ _ => rfl⟩, .inl rfl, fun g hg => by cases hg⟩
        have hc := hs.cells
        have hlz := hs.len
        rcases hs.kind with ⟨e', hk⟩ | hk <;> simp [Builtin.append_, run_underlying ht, run_underlying hk, sizeOf, typeInfo, hi, hlz, hc, storeCells]
      · have hr := run_append_grow_src (P := P) w t tx ty e i z ht hi hz (some A) 0 0 [] (run_firstCells_some (P := P) w.drew i.size 0 A 0 0 [] (by simp) (fun j v h => by simp at h)) x m news hs (by omega) (by simp only [maxLen] at h63; omega) (growslice_fits (by omega) hbytes)
        refine ⟨_, _, some w.heap.size, hr, .inl ⟨⟨by rw [List.nil_append, Nat.zero_add]; exact hl, .inr ⟨w.heap.size, _, _, rfl, Nat.zero_le _, heap_alloc_new w.drew _, grownCap_ge w (0 + m) 0 e, grownCap_le_maxLen w (0 + m) 0 e h63, ?_, ?_⟩⟩, rfl⟩, ⟨rfl, rfl, rfl, by simp, fun k hk _ => heap_alloc_old w.drew _ hk⟩, .inr rfl, fun g hg => by cases hg⟩
        · have hge := grownCap_ge w (0 + m) 0 e
          simp only [Array.size_append, List.size_toArray, size_zeroCells, hzs, hl, ← Nat.add_mul, List.nil_append, Nat.zero_add] at hge ⊢
          congr 1
          omega
        · simp only [Array.toList_append, List.nil_append, Nat.zero_add]
          rw [← hl]
          exact List.take_left
structure Ctx (E : Env P) (S : ASt E) (asm : List (Nat × Bool)) (a : Act) (w : World) (ι : Nat → Option Gh) (ro : Nat → Nat → Prop) : Prop where
  tm : TmOk E w ro ι a S.tmps
  asm : AsmOk a asm
  rolt : ∀ k o, ro k o → k < w.heap.size
  objs : ∀ (id : Nat) o, look S.objs id = some o → ObjOk E w ro ι id o
  fresh : ι S.next = none
section
variable {S : ASt E} {asm : List (Nat × Bool)} {a : Act}
theorem Ctx.get (c : Ctx E S asm a w ι ro) (x : Operand) : Rep E w ro ι (a.eval x) (getA S.tmps asm x) := getA_rep c.tm c.asm x
theorem Ctx.pure (c : Ctx E S asm a w ι ro) {o : Oper} {val : Value} {x : AV E} (hr : (execOp a.eval o).run P w = .ok (.value val) w) (hv : Rep E w ro ι val x) : OpDone E o a w ι ro S.next (.pure x) :=
  .pure c.rolt c.fresh hr rfl rfl hv
def setGh (ι : Nat → Option Gh) (id : Nat) (gh : Gh) : Nat → Option Gh := fun i => if i = id then some gh else ι i
theorem setGh_ext (ι : Nat → Option Gh) (id : Nat) (gh : Gh) (h : ι id = none) : ∀ i g, ι i = some g → setGh ι id gh i = some g := by
  intro i g hi
  unfold setGh
  by_cases e : i = id
  · subst e; rw [h] at hi; cases hi
  · rw [if_neg e]; exact hi
theorem cell_alloc (w : World) (ob : Obj) {k : Nat} (h : k < w.heap.size) (o : Nat) : (w.alloc ob).cell? ⟨k, o, none⟩ = w.cell? ⟨k, o, none⟩ :=
  World.cell?_of_block (heap_alloc_old w ob h)
theorem OpPost.boxN (c : Ctx E S asm a w ι ro) (vs : Array Value) (T : TypeId) (cs : List (AV E)) (hs : vs.size = cs.length)
    (hv : ∀ (j : Nat) v x, vs[j]? = some v → cs[j]? = some x → v.oneCell' = true ∧ Rep E (w.alloc (.cells vs T)) ro (setGh ι S.next ⟨.pointer (some ⟨w.heap.size, 0, none⟩), 0, T, 0, some w.heap.size⟩) v x) :
    OpPost E w (w.alloc (.cells vs T)) ι (setGh ι S.next ⟨.pointer (some ⟨w.heap.size, 0, none⟩), 0, T, 0, some w.heap.size⟩) ro ro S.next ⟨true, .ptr S.next 0, none, some (.box cs)⟩ (.pointer (some ⟨w.heap.size, 0, none⟩)) where
  os := rfl
  tape := rfl
  output := rfl
  size := by simp
  frame := fun k hk _ => heap_alloc_old w _ hk
  cell := fun k o h => cell_alloc w _ (c.rolt k o h) o
  mono := fun _ _ h => h
  rolt := fun k o h => by have := c.rolt k o h; simp; omega
  fresh := fun _ _ h => .inl h
  iold := fun id h => if_neg h
  inew := fun gh k h hk => by
    simp [setGh] at h
    subst h
    simp at hk
    subst hk
    exact ⟨by simp, .inl (Nat.le_refl _)⟩
  nonew := fun h => by cases h
  upd := fun id o h => by cases h
  new := fun o h => by
    cases h
    exact ⟨_, w.heap.size, vs, T, if_pos rfl, rfl, rfl, heap_alloc_new w _, hs, hv, fun o h => by have := c.rolt _ o h; omega, rfl⟩
  val := .ptr _ _ _ _ (if_pos rfl) rfl
theorem OpPost.box (c : Ctx E S asm a w ι ro) (vs : Array Value) (T : TypeId) (cs : List (AV E)) (hs : vs.size = cs.length) (hv : ∀ (j : Nat) v x, vs[j]? = some v → cs[j]? = some x → v.oneCell' = true ∧ Rep E w ro ι v x) :
    OpPost E w (w.alloc (.cells vs T)) ι (setGh ι S.next ⟨.pointer (some ⟨w.heap.size, 0, none⟩), 0, T, 0, some w.heap.size⟩) ro ro S.next ⟨true, .ptr S.next 0, none, some (.box cs)⟩ (.pointer (some ⟨w.heap.size, 0, none⟩)) :=
  OpPost.boxN c vs T cs hs fun j v x h1 h2 => by
    obtain ⟨g1, g2⟩ := hv j v x h1 h2
    exact ⟨g1, g2.mono (fun _ _ h => h) (fun k o h => cell_alloc w _ (c.rolt k o h) o) (setGh_ext _ _ _ c.fresh)⟩
theorem mkCell_rep {O : Oracle E} {T : TypeId} {nid g : Nat} {cs : List (AV E)} {vs : Array Value} {w' : World} {ro' : Nat → Nat → Prop} {ι' : Nat → Option Gh} {gh : Gh} (hi : ι' nid = some gh) (hgv : gh.v = .pointer (some ⟨g, 0, none⟩)) (he : gh.e = T) (hs : vs.size = cs.length)
    (h : ∀ (j : Nat) v x, vs[j]? = some v → cs[j]? = some x → v.oneCell' = true ∧ Rep E w' ro' ι' v x) : vs.size = (mkCell O T nid cs).length ∧ ∀ (j : Nat) v x, vs[j]? = some v → (mkCell O T nid cs)[j]? = some x → v.oneCell' = true ∧ Rep E w' ro' ι' v x := by
  unfold mkCell
  split
  · exact ⟨hs, h⟩
  · split
    · rename_i r _
      refine ⟨hs, fun j v x hv hx => ?_⟩
      cases j with
      | succ j => exact h (j + 1) v x hv hx
      | zero =>
        obtain ⟨g1, g2⟩ := h 0 v _ hv rfl
        have := g2.raw_inv
        subst this
        simp at hx
        subst hx
        exact ⟨rfl, .mk gh _ g T nid hi hgv he (.inl rfl)⟩
    · exact ⟨hs, h⟩
theorem OpPost.withV {w w' : World} {ι ι' : Nat → Option Gh} {ro ro' : Nat → Nat → Prop} {nid : Nat} {r : Res E} {val val' : Value} {x : AV E} (h : OpPost E w w' ι ι' ro ro' nid r val) (hx : Rep E w' ro' ι' val' x) : OpPost E w w' ι ι' ro ro' nid ⟨r.ok, x, r.upd, r.new⟩ val' :=
  ⟨h.os, h.tape, h.output, h.size, h.frame, h.cell, h.mono, h.rolt, h.fresh, h.iold, h.inew, h.nonew, h.upd, h.new, hx⟩
theorem run_zero {T : TypeId} {cs : List (AV E)} (h : zeroCellsA T = some cs) : ∃ i z, P.info? T = some i ∧ i.zero = some z ∧ cs = z.cells.toList.map constS ∧ (zeroValue T).run P w = .ok z w := by
  unfold zeroCellsA at h
  cases hi : P.info? T with
  | none => rw [hi] at h; cases h
  | some i =>
    cases hz : i.zero with
    | none => rw [hi] at h; simp only [hz] at h; cases h
    | some z =>
      rw [hi] at h; simp only [hz] at h
      cases h
      exact ⟨i, z, rfl, hz, rfl, by simp [zeroValue, typeInfo, hi, hz]⟩
theorem constS_one {v : Value} {c : AV E} (h : constS v = c) (hc : cellOk c = true) : v.oneCell' = true := by
  subst h
  cases v <;> first | rfl | cases hc
theorem done_alloc (c : Ctx E S asm a w ι ro) {o : Oper} {T : TypeId} (ho : o.op = .alloc T) {cs : List (AV E)} (h : zeroCellsA T = some cs) (hk : allOk cs = true) (O : Oracle E) :
    OpDone E o a w ι ro S.next ⟨true, .ptr S.next 0, none, some (.box (mkCell O T S.next cs))⟩ := by
  obtain ⟨i, z, hi, hz, hcs, hrun⟩ := run_zero (w := w) h
  have hv : ∀ (j : Nat) v x, z.cells[j]? = some v → cs[j]? = some x → v.oneCell' = true ∧ Rep E w ro ι v x := fun j v x h1 h2 => by
    have h2' := h2
    rw [hcs, List.getElem?_map] at h2
    have : z.cells.toList[j]? = some v := by simpa using h1
    rw [this] at h2
    simp at h2
    subst h2
    exact ⟨constS_one rfl (allOk_at hk j _ h2'), constS_rep v⟩
  have hm := mkCell_rep (O := O) (T := T) (nid := S.next) (g := w.heap.size) (w' := w.alloc (.cells z.cells T)) (ro' := ro) (ι' := setGh ι S.next ⟨.pointer (some ⟨w.heap.size, 0, none⟩), 0, T, 0, some w.heap.size⟩) (if_pos rfl) rfl rfl (show z.cells.size = cs.length by rw [hcs]; simp) fun j v x h1 h2 => by
    obtain ⟨g1, g2⟩ := hv j v x h1 h2
    exact ⟨g1, g2.mono (fun _ _ h => h) (fun k o h => cell_alloc w _ (c.rolt k o h) o) (setGh_ext _ _ _ c.fresh)⟩
  refine .inl ⟨_, _, _, _, ?_, OpPost.boxN c z.cells T _ hm.1 hm.2⟩
  simp [execOp, ho, Instr.alloc, hrun, newVar, newRow]
theorem done_box (c : Ctx E S asm a w ι ro) {o : Oper} {T : TypeId} {x : Operand} (ho : o.op = .box T x) {cs : List (AV E)} (h : cellsA (getA S.tmps asm x) = some cs) :
    OpDone E o a w ι ro S.next ⟨true, .ptr S.next 0, none, some (.box cs)⟩ := by
  obtain ⟨h1, h2⟩ := cellsA_rep (c.get x) h
  refine .inl ⟨_, _, _, _, ?_, OpPost.box c (a.eval x).cells T cs h1 h2⟩
  simp [execOp, ho, Instr.box, newVar, newRow]
theorem run_load_done {x : AV E} {v : Value} {T : TypeId} {r : AV E} (hobjs : ∀ (id : Nat) o, look S.objs id = some o → ObjOk E w ro ι id o) (hv : Rep E w ro ι v x) (h : evLoad S.objs T x = some r) :
    ∃ val, (Instr.loadAt T v).run P w = .ok val w ∧ Rep E w ro ι val r := by
  unfold evLoad at h
  cases hv with
  | ptr gh g id off hi hgv =>
    simp only at h
    cases hob : look S.objs id with
    | none => rw [hob] at h; cases h
    | some ob =>
      cases ob with
      | dead => rw [hob] at h; cases h
      | tail l => rw [hob] at h; cases h
      | mp _ _ _ => rw [hob] at h; cases h
      | lp _ _ _ _ _ _ _ => rw [hob] at h; cases h
      | dfr => rw [hob] at h; cases h
      | arr _ _ _ => rw [hob] at h; cases h
      | row _ _ => rw [hob] at h; cases h
      | box cs =>
        rw [hob] at h
        obtain ⟨gh', g', vs, e, hi', hgv', _, hh, hsz, hcell, _⟩ := hobjs id _ hob
        rw [hi] at hi'
        cases hi'
        rw [hgv] at hgv'
        cases hgv'
        obtain ⟨val, hrun, hr⟩ := run_loadVar_rep (P := P) (g := g) (off := off) (w := w) (ro := ro) (ι := ι) (cs := cs.drop off) (fun j c hc => by
          rw [List.getElem?_drop] at hc
          have hlt : off + j < vs.size := by rw [hsz]; exact (List.getElem?_eq_some_iff.1 hc).1
          have hvj := Array.getElem?_eq_getElem hlt
          exact ⟨_, by rw [cell_of_row w g _ vs e _ hh]; exact hvj, (hcell _ _ _ hvj hc).2⟩) h
        exact ⟨val, by simp [Instr.loadAt, Instr.sureAddr, hrun], hr⟩
  | pelt g off f cs h1 h2 =>
    obtain ⟨val, hrun, hr⟩ := run_loadVar_rep (P := P) (g := g) (off := off) (w := w) (ro := ro) (ι := ι) (cs := cs.map .d) (fun j c hc => by
      rw [List.getElem?_map] at hc
      cases he : cs[j]? with
      | none => rw [he] at hc; cases hc
      | some e =>
        rw [he] at hc
        cases hc
        exact ⟨_, (h1 j e he).2, .d _ _ (h2 j e he)⟩) h
    exact ⟨val, by simp [Instr.loadAt, Instr.sureAddr, hrun], hr⟩
  | elt gh g id i off cap hi hgv hlt =>
    simp only at h
    cases hob : look S.objs id with
    | none => rw [hob] at h; cases h
    | some ob =>
      cases ob with
      | dead => rw [hob] at h; cases h
      | tail l => rw [hob] at h; cases h
      | mp _ _ _ => rw [hob] at h; cases h
      | lp _ _ _ _ _ _ _ => rw [hob] at h; cases h
      | dfr => rw [hob] at h; cases h
      | arr _ _ _ => rw [hob] at h; cases h
      | box cs => rw [hob] at h; cases h
      | row t l =>
        rw [hob] at h
        obtain ⟨gh', xs, hi', hn, he, hsz, hown, hrow, hnro⟩ := hobjs id _ hob
        rw [hi] at hi'
        cases hi'
        have hil : i < l.length := by omega
        have hget : l[i]? = some (l.getD i (E.dflt t)) := by rw [List.getD, List.getElem?_eq_getElem hil]; rfl
        have hownR : w.ownsRow 0 gh.e gh.sz gh.v gh.n xs := by
          rcases hown with h | h
          · exact h.1
          · omega
        obtain ⟨val, hrun, hr⟩ := run_loadVar_rep (P := P) (g := g) (off := i * gh.sz + off) (w := w) (ro := ro) (ι := ι) (cs := ((E.cells t (l.getD i (E.dflt t))).drop off).map .d) (fun j c hc => by
          rw [List.getElem?_map, List.getElem?_drop] at hc
          cases he : (E.cells t (l.getD i (E.dflt t)))[off + j]? with
          | none => rw [he] at hc; cases hc
          | some cc =>
            rw [he] at hc
            cases hc
            obtain ⟨u, hu, hd⟩ := hrow i _ (off + j) cc hget he
            refine ⟨u, ?_, .d _ _ hd⟩
            have := hownR.cells (g := g) (by rw [hgv]; rfl) _ _ hu
            rw [add_none, Nat.zero_add] at this
            rw [hsz, Nat.add_assoc]
            exact this) h
        exact ⟨val, by simp [Instr.loadAt, Instr.sureAddr, hrun], hr⟩
  | _ => cases h
theorem done_load (c : Ctx E S asm a w ι ro) {o : Oper} {T : TypeId} {x : Operand} (ho : o.op = .load T x) {r : AV E} (h : evLoad S.objs T (getA S.tmps asm x) = some r) :
    OpDone E o a w ι ro S.next (.pure r) := by
  obtain ⟨val, hrun, hr⟩ := run_load_done c.objs (c.get x) h
  exact c.pure (by simp [execOp, ho, hrun]) hr
theorem done_elt (c : Ctx E S asm a w ι ro) {o : Oper} {T : TypeId} {x y : Operand} (ho : o.op = .store T x y) {gh : Gh} {g id i off cap n : Nat} {t : E.Ty} {l : List (E.Den t)} {vy : Value} {ti : TypeInfo} {ds : List (DVal E.Den)} {x' : E.Den t}
    (hvx : a.eval x = .pointer (some ⟨g, i * gh.sz + off, none⟩)) (hvy : a.eval y = vy) (hi : ι id = some gh) (hgv : gh.v = .slice (some ⟨g, 0, none⟩) gh.n cap) (hlt : i < gh.n) (hob : look S.objs id = some (.row t l))
    (hinfo : P.info? T = some ti) (hin : ti.size = n) (hlen : vy.cells.size = n) (hle : off + n ≤ E.size t) (hl : ds.length = n) (hds : ∀ (j : Nat) v x, vy.cells[j]? = some v → ds[j]? = some x → DRep E w ro v x)
    (hfold : E.fold t ((E.cells t (l.getD i (E.dflt t))).take off ++ ds ++ (E.cells t (l.getD i (E.dflt t))).drop (off + n)) = some x') :
    OpDone E o a w ι ro S.next ⟨true, .any, some (id, .row t (l.set i x')), none⟩ := by
  obtain ⟨gh', xs, hi', hgn, he, hsz, hown, hrow, hnro⟩ := c.objs id _ hob
  rw [hi] at hi'
  cases hi'
  have hil : i < l.length := by omega
  have hget : l[i]? = some (l.getD i (E.dflt t)) := by rw [List.getD, List.getElem?_eq_getElem hil]; rfl
  generalize hold : l.getD i (E.dflt t) = old at hget hfold
  have hpos := E.size_pos t
  have hownR : w.ownsRow 0 gh.e gh.sz gh.v gh.n xs ∧ gh.blk = gh.v.ownBlock := by
    rcases hown with h | h
    · exact h
    · omega
  obtain ⟨⟨hxl, hrowO⟩, hblk⟩ := hownR
  have hblk : gh.blk = some g := by rw [hblk, hgv]; rfl
  rcases hrowO with ⟨h0, _⟩ | ⟨g', cap', cur, hv', hb, hh, hnc, hcm, hcs, htake⟩
  · rw [hgv] at h0; cases h0
  · rw [hgv] at hv'
    cases hv'
    have hmul : i * gh.sz + gh.sz ≤ gh.n * gh.sz := by
      have := Nat.mul_le_mul_right gh.sz (show i + 1 ≤ gh.n by omega)
      rwa [Nat.succ_mul] at this
    have hmul2 : gh.n * gh.sz ≤ cap * gh.sz := Nat.mul_le_mul_right _ hnc
    have hcl := E.cells_len t old
    have hdone := hds
    have hone : ∀ v ∈ vy.cells.toList, v.oneCell' = true := by
      intro v hv
      obtain ⟨j, hj⟩ := List.getElem?_of_mem hv
      have hj' : vy.cells[j]? = some v := by simpa using hj
      have hjl : j < ds.length := by rw [hl, ← hlen]; exact (Array.getElem?_eq_some_iff.1 hj').1
      exact (hds j v _ hj' (List.getElem?_eq_getElem hjl)).one
    have hfit : i * gh.sz + off + vy.cells.toList.length ≤ cur.size := by simp only [Array.length_toList, hlen, hcs]; omega
    have hrun := run_storeCells_at P g (i * gh.sz + off) gh.e vy.cells.toList 0 cur w hh (by simpa using hfit) hone
    simp only [Nat.add_zero] at hrun
    generalize hat : i * gh.sz + off = q at *
    generalize hnew : (cur.toList.take q ++ vy.cells.toList ++ cur.toList.drop (q + vy.cells.toList.length)) = new at hrun
    have hnewl : new.length = cur.size := by
      rw [← hnew]
      simp only [List.length_append, List.length_take, List.length_drop, Array.length_toList] at hfit ⊢
      omega
    have hcellro : ∀ k o, ro k o → (w.setRow g new.toArray).cell? ⟨k, o, none⟩ = w.cell? ⟨k, o, none⟩ := by
      intro k o hro
      exact World.cell?_of_block (setRow_other w g k _ (fun e => hnro g hblk o (by rw [← e]; exact hro)))
    have hmono : ∀ (v : Value) (x : DVal E.Den), DRep E w ro v x → DRep E (w.setRow g new.toArray) ro v x := fun v x h => h.mono (fun _ _ h => h) hcellro
    refine .inr (.inl ⟨w.setRow g new.toArray, ι, ro, ?_, ?_⟩)
    · have e1 : vy.cells.size = ti.size := by omega
      simp [execOp, ho, hvx, hvy, Instr.storeAt, Instr.sureAddr, storeVar, run_sizeOf hinfo, e1, hrun]
    · exact {
        os := rfl
        tape := rfl
        output := rfl
        size := by simp [World.setRow]
        frame := fun k hk hne => setRow_other w g k _ (fun e => hne id _ gh rfl hi (by rw [hblk, e]))
        cell := hcellro
        mono := fun _ _ h => h
        rolt := fun k o h => by have := c.rolt k o h; simp [World.setRow]; exact this
        fresh := fun _ _ h => .inl h
        iold := fun _ _ => rfl
        inew := fun gh k h => by rw [c.fresh] at h; cases h
        nonew := fun _ => rfl
        upd := fun id' o' h => by
          cases h
          refine ⟨gh, new.take (gh.n * gh.sz), hi, by rw [List.length_set]; exact hgn, he, hsz, .inl ⟨⟨by rw [List.length_take, hnewl, hcs]; exact Nat.min_eq_left hmul2, .inr ⟨g, cap, new.toArray, hgv, Nat.zero_le _, setRow_heap w g cur _ _ _ hh, hnc, hcm, by simp [hnewl, hcs], by simp⟩⟩, by rw [hblk, hgv]; rfl⟩, ?_, fun g' hg' o ho => hnro g' hg' o ho⟩
          -- what the row's cells read as
          have hnewat : ∀ p, p < gh.n * gh.sz → (new.take (gh.n * gh.sz))[p]? = if q ≤ p ∧ p < q + n then vy.cells.toList[p - q]? else xs[p]? := by
            intro p hp
            rw [List.getElem?_take_of_lt hp, ← hnew]
            have e1 : (cur.toList.take q).length = q := by simp only [List.length_take, Array.length_toList]; simp only [Array.length_toList] at hfit; omega
            have hxp : xs[p]? = cur.toList[p]? := by rw [← htake, List.getElem?_take_of_lt hp]
            rcases Nat.lt_or_ge p q with hpq | hpq
            · rw [if_neg (by omega), List.append_assoc, List.getElem?_append_left (by omega), List.getElem?_take_of_lt hpq, hxp]
            · rcases Nat.lt_or_ge p (q + n) with hpn | hpn
              · rw [if_pos ⟨hpq, hpn⟩, List.append_assoc, List.getElem?_append_right (by omega), List.getElem?_append_left (by simp only [Array.length_toList]; omega), e1]
              · rw [if_neg (by omega), List.getElem?_append_right (by simp only [List.length_append, Array.length_toList]; omega), List.getElem?_drop, hxp]
                congr 1
                simp only [List.length_append, Array.length_toList, e1]
                omega
          intro i' x j cc hx hc
          have hj : j < E.size t := by rw [← E.cells_len t x]; exact (List.getElem?_eq_some_iff.1 hc).1
          have hi'l : i' < l.length := by have := (List.getElem?_eq_some_iff.1 hx).1; simpa using this
          have hp : i' * E.size t + j < gh.n * gh.sz := by
            rw [hsz, hgn]
            have := Nat.mul_le_mul_right (E.size t) (show i' + 1 ≤ l.length by omega)
            rw [Nat.succ_mul] at this
            omega
          rw [hnewat _ hp]
          by_cases hii : i' = i
          · subst hii
            rw [List.getElem?_set_self hil] at hx
            cases hx
            have hcs' := E.fold_ok t _ _ hfold
            -- the cell as the row has it now
            have hcell : ∀ c0, ((E.cells t old).take off ++ ds ++ (E.cells t old).drop (off + n))[j]? = some c0 → ∃ u, (if q ≤ i' * E.size t + j ∧ i' * E.size t + j < q + n then vy.cells.toList[i' * E.size t + j - q]? else xs[i' * E.size t + j]?) = some u ∧ DRep E w ro u c0 := by
              intro c0 hc0
              have e1 : ((E.cells t old).take off).length = off := by simp only [List.length_take]; omega
              have hq : q = i' * E.size t + off := by rw [← hat, hsz]
              rcases Nat.lt_or_ge j off with hjo | hjo
              · rw [if_neg (by omega)]
                rw [List.append_assoc, List.getElem?_append_left (by omega), List.getElem?_take_of_lt hjo] at hc0
                exact hrow i' old j c0 hget hc0
              · rcases Nat.lt_or_ge j (off + n) with hjn | hjn
                · rw [if_pos (by omega)]
                  rw [List.append_assoc, List.getElem?_append_right (by omega), List.getElem?_append_left (by omega), e1] at hc0
                  have e2 : i' * E.size t + j - q = j - off := by omega
                  rw [e2]
                  have hlt2 : j - off < vy.cells.size := by omega
                  have hv := Array.getElem?_eq_getElem hlt2
                  exact ⟨vy.cells[j - off], by simp, hds _ _ _ hv hc0⟩
                · rw [if_neg (by omega)]
                  rw [List.getElem?_append_right (by simp only [List.length_append]; omega), List.getElem?_drop] at hc0
                  refine hrow i' old j c0 hget ?_
                  rw [← hc0]
                  congr 1
                  simp only [List.length_append, e1]
                  omega
            have hjl : j < ((E.cells t old).take off ++ ds ++ (E.cells t old).drop (off + n)).length := by rw [hcs'.len, E.cells_len]; exact hj
            obtain ⟨u, hu, hdr⟩ := hcell _ (List.getElem?_eq_getElem hjl)
            exact ⟨u, hu, hmono _ _ ((hcs'.at_ j _ cc (List.getElem?_eq_getElem hjl) hc).rep hdr)⟩
          · rw [List.getElem?_set_ne (fun e => hii e.symm)] at hx
            have hout : ¬ (q ≤ i' * E.size t + j ∧ i' * E.size t + j < q + n) := by
              rw [← hat, hsz]
              rcases Nat.lt_or_ge i' i with h | h
              · have := Nat.mul_le_mul_right (E.size t) (show i' + 1 ≤ i by omega)
                rw [Nat.succ_mul] at this
                omega
              · have := Nat.mul_le_mul_right (E.size t) (show i + 1 ≤ i' by omega)
                rw [Nat.succ_mul] at this
                omega
            rw [if_neg hout]
            obtain ⟨u, hu, hdr⟩ := hrow i' x j cc hx hc
            exact ⟨u, hu, hmono _ _ hdr⟩
        new := fun o h => by cases h
        val := .any _ }
theorem done_store (c : Ctx E S asm a w ι ro) {o : Oper} {T : TypeId} {x y : Operand} (ho : o.op = .store T x y) {u : Nat × AObj E} (h : evStore S.objs T (getA S.tmps asm x) (getA S.tmps asm y) = some u) :
    OpDone E o a w ι ro S.next ⟨true, .any, some u, none⟩ := by
  unfold evStore at h
  have hx := c.get x
  generalize getA S.tmps asm x = X at h hx
  generalize hvx : a.eval x = vx at hx
  cases hx with
  | ptr gh g id off hi hgv =>
    simp only at h
    cases hob : look S.objs id with
    | none => rw [hob] at h; cases h
    | some ob =>
      cases ob with
      | dead => rw [hob] at h; cases h
      | tail l => rw [hob] at h; cases h
      | mp _ _ _ => rw [hob] at h; cases h
      | lp _ _ _ _ _ _ _ => rw [hob] at h; cases h
      | dfr => rw [hob] at h; cases h
      | arr _ _ _ => rw [hob] at h; cases h
      | row _ _ => rw [hob] at h; cases h
      | box cs =>
        rw [hob] at h
        simp only at h
        cases hvs : cellsA (getA S.tmps asm y) with
        | none => rw [hvs] at h; cases h
        | some vs =>
          cases hn : sizeT P T with
          | none => rw [hvs, hn] at h; cases h
          | some n =>
            rw [hvs, hn] at h
            simp only at h
            split at h
            · rename_i hcond
              obtain ⟨hl, hle, hok⟩ := hcond
              cases h
              obtain ⟨i, d, hinfo, hd, hin⟩ := sizeT_inv hn
              obtain ⟨gh', g', row, e, hi', hgv', hblk, hh, hsz, hcell, hnro, hge⟩ := c.objs id _ hob
              rw [hi] at hi'
              cases hi'
              rw [hgv] at hgv'
              cases hgv'
              obtain ⟨h1, h2⟩ := cellsA_rep (c.get y) hvs
              generalize hvy : a.eval y = vy at *
              have hlen : vy.cells.toList.length = n := by simp; omega
              have hlen' : vy.cells.size = n := by omega
              have hone : ∀ v ∈ vy.cells.toList, v.oneCell' = true := by
                intro v hv
                obtain ⟨j, hj⟩ := List.getElem?_of_mem hv
                have hj' : vy.cells[j]? = some v := by simpa using hj
                have hjl : j < vs.length := by rw [← h1]; exact (Array.getElem?_eq_some_iff.1 hj').1
                exact (h2 j v _ hj' (List.getElem?_eq_getElem hjl)).1
              have hrun := run_storeCells_at P g off e vy.cells.toList 0 row w hh (by rw [hlen]; omega) hone
              simp only [Nat.add_zero] at hrun
              generalize hnew : (row.toList.take off ++ vy.cells.toList ++ row.toList.drop (off + vy.cells.toList.length)) = new at hrun
              have hnewl : new.length = row.size := by
                rw [← hnew]
                simp only [List.length_append, List.length_take, List.length_drop, Array.length_toList]
                omega
              have hcellro : ∀ k o, ro k o → (w.setRow g new.toArray).cell? ⟨k, o, none⟩ = w.cell? ⟨k, o, none⟩ := by
                intro k o hro
                exact World.cell?_of_block (setRow_other w g k _ (fun e => by subst e; exact hnro o hro))
              refine .inr (.inl ⟨w.setRow g new.toArray, ι, ro, ?_, ?_⟩)
              · simp [execOp, ho, hvx, hvy, Instr.storeAt, Instr.sureAddr, storeVar, run_sizeOf hinfo, hlen', hin, hrun]
              · exact {
                  os := rfl
                  tape := rfl
                  output := rfl
                  size := by simp [World.setRow]
                  frame := fun k hk hne => setRow_other w g k _ (fun e => hne id _ gh rfl hi (by rw [hblk, e]))
                  cell := hcellro
                  mono := fun _ _ h => h
                  rolt := fun k o h => by have := c.rolt k o h; simp [World.setRow]; exact this
                  fresh := fun _ _ h => .inl h
                  iold := fun _ _ => rfl
                  inew := fun gh k h => by rw [c.fresh] at h; cases h
                  nonew := fun _ => rfl
                  upd := fun id' o' h => by
                    cases h
                    refine ⟨gh, g, new.toArray, e, hi, hgv, hblk, setRow_heap w g row _ e _ hh, by simp [hnewl, hsz, hl]; omega, fun j v x hv hx => ?_, hnro, hge⟩
                    have hv' : new[j]? = some v := by simpa using hv
                    rw [← hnew] at hv'
                    have mono := fun (v : Value) (x : AV E) (h : Rep E w ro ι v x) => h.mono (w' := w.setRow g new.toArray) (fun _ _ h => h) hcellro (fun _ _ h => h)
                    rcases Nat.lt_or_ge j off with hjo | hjo
                    · rw [List.append_assoc, List.getElem?_append_left (by simp; omega), List.getElem?_take_of_lt hjo] at hv'
                      rw [List.append_assoc, List.getElem?_append_left (by simp; omega), List.getElem?_take_of_lt hjo] at hx
                      have := hcell j v x (by simpa using hv') hx
                      exact ⟨this.1, mono _ _ this.2⟩
                    · rcases Nat.lt_or_ge j (off + n) with hjn | hjn
                      · rw [List.append_assoc, List.getElem?_append_right (by simp; omega), List.getElem?_append_left (by simp; omega)] at hv'
                        rw [List.append_assoc, List.getElem?_append_right (by simp; omega), List.getElem?_append_left (by simp; omega)] at hx
                        have e1 : (row.toList.take off).length = off := by simp; omega
                        have e2 : (cs.take off).length = off := by simp; omega
                        rw [e1] at hv'
                        rw [e2] at hx
                        have := h2 (j - off) v x (by simpa using hv') hx
                        exact ⟨this.1, mono _ _ this.2⟩
                      · have e1 : (row.toList.take off ++ vy.cells.toList).length = off + n := by simp; omega
                        have e2 : (cs.take off ++ vs).length = off + n := by simp; omega
                        rw [List.getElem?_append_right (by omega), e1, List.getElem?_drop] at hv'
                        rw [List.getElem?_append_right (by omega), e2, List.getElem?_drop] at hx
                        rw [hlen] at hv'
                        have := hcell _ v x (by simpa using hv') hx
                        exact ⟨this.1, mono _ _ this.2⟩
                  new := fun o h => by cases h
                  val := .any _ }
            · cases h
  | elt gh g id i off cap hi hgv hlt =>
    simp only at h
    cases hob : look S.objs id with
    | none => rw [hob] at h; cases h
    | some ob =>
      cases ob with
      | dead => rw [hob] at h; cases h
      | tail l => rw [hob] at h; cases h
      | mp _ _ _ => rw [hob] at h; cases h
      | lp _ _ _ _ _ _ _ => rw [hob] at h; cases h
      | dfr => rw [hob] at h; cases h
      | arr _ _ _ => rw [hob] at h; cases h
      | box cs => rw [hob] at h; cases h
      | row t l =>
        rw [hob] at h
        simp only at h
        cases hvs : cellsA (getA S.tmps asm y) with
        | none => rw [hvs] at h; cases h
        | some vs =>
          cases hn : sizeT P T with
          | none => rw [hvs, hn] at h; cases h
          | some n =>
            rw [hvs, hn] at h
            simp only at h
            cases hds : toDs vs with
            | none => rw [hds] at h; cases h
            | some ds =>
            rw [hds] at h
            simp only at h
            split at h
            · rename_i hcond
              obtain ⟨hl, hle⟩ := hcond
              split at h
              · rename_i x' hfold
                cases h
                obtain ⟨ti, d, hinfo, hd, hin⟩ := sizeT_inv hn
                obtain ⟨h1, h2⟩ := cellsA_rep (c.get y) hvs
                generalize hvy : a.eval y = vy at *
                have hdl := toDs_len hds
                have hlen : vy.cells.toList.length = n := by simp; omega
                have hlen' : vy.cells.size = n := by omega
                exact done_elt c ho hvx hvy hi hgv hlt hob hinfo hin hlen' hle hl (fun j v x hv hx => by
                  have hj : j < vs.length := by rw [← hdl]; exact (List.getElem?_eq_some_iff.1 hx).1
                  have hvj := List.getElem?_eq_getElem hj
                  exact toD_rep (h2 j v _ hv hvj).2 (toDs_at hds j _ x hvj hx)) hfold
              · cases h
            · cases h
  | _ => cases h
theorem OpDone.upd {o : Oper} {nid id : Nat} {ok : Bool} {v : AV E} {ob ob' : AObj E} (h : OpDone E o a w ι ro nid ⟨ok, v, some (id, ob), none⟩) (hl : ob.live = true) (hob : ∀ w' ro' ι', ObjOk E w' ro' ι' id ob → ObjOk E w' ro' ι' id ob') : OpDone E o a w ι ro nid ⟨ok, v, some (id, ob'), none⟩ := by
  have conv : ∀ {w' ι' ro' val}, OpPost E w w' ι ι' ro ro' nid ⟨ok, v, some (id, ob), none⟩ val → OpPost E w w' ι ι' ro ro' nid ⟨ok, v, some (id, ob'), none⟩ val := fun hp => {
    os := hp.os
    tape := hp.tape
    output := hp.output
    size := hp.size
    frame := fun k hk hne => hp.frame k hk (fun id' o gh hu hi => by cases hu; exact hne id ob' gh rfl hi)
    cell := hp.cell
    mono := hp.mono
    rolt := hp.rolt
    fresh := fun k o h => by
      rcases hp.fresh k o h with h | h | ⟨id', o', gh, hu, hi, hb⟩
      · exact .inl h
      · exact .inr (.inl h)
      · cases hu; exact .inr (.inr ⟨id, ob', gh, rfl, hi, hb⟩)
    iold := hp.iold
    inew := fun gh k hi hb => by
      obtain ⟨h1, h2⟩ := hp.inew gh k hi hb
      refine ⟨h1, ?_⟩
      rcases h2 with h2 | ⟨id', o', gh', hu, hl', _⟩
      · exact .inl h2
      · cases hu; rw [hl] at hl'; cases hl'
    nonew := hp.nonew
    upd := fun id' o hu => by cases hu; exact hob _ _ _ (hp.upd id ob rfl)
    new := fun o h => by cases h
    val := hp.val }
  rcases h with ⟨val, w', ι', ro', hr, hp⟩ | ⟨w', ι', ro', hr, hp⟩ | ⟨f, args, hr, hc⟩
  · exact .inl ⟨val, w', ι', ro', hr, conv hp⟩
  · exact .inr (.inl ⟨w', ι', ro', hr, conv hp⟩)
  · exact .inr (.inr ⟨f, args, hr, hc.mono fun e w' ⟨val, ι', ro', he, hp⟩ => ⟨val, ι', ro', he, conv hp⟩⟩)
theorem cell1_of {t : E.Ty} (ha : E.agg t = false) (x : E.Den t) : ∃ c, E.cells t x = [c] ∧ cell1 t x = .d c := by
  have h1 : (E.cells t x).length = 1 := by rw [E.cells_len, E.one t ha]
  match hc : E.cells t x, h1 with
  | [c], _ => exact ⟨c, rfl, by unfold cell1; rw [hc]; rfl⟩
theorem arrC_len (t : E.Ty) (l : List (E.Den t)) : (arrC t l).length = l.length := by simp [arrC]
theorem done_loadA (c : Ctx E S asm a w ι ro) {o : Oper} {T : TypeId} {x : Operand} (ho : o.op = .load T x) {r : Bool × AV E} (h : evLoadA S.objs T (getA S.tmps asm x) = some r) (hok : r.1 = true) : OpDone E o a w ι ro S.next (.test r.1 r.2) := by
  have hx := c.get x
  generalize getA S.tmps asm x = X at *
  generalize hvx : a.eval x = vx at hx
  unfold evLoadA at h
  split at h
  · rename_i id off
    split at h
    · rename_i t l fz hob
      split at h
      · rename_i q hq
        cases h
        have hok : Nat.blt off l.length = true := hok
        have hlt : off < l.length := by simpa [Nat.blt_eq] using hok
        cases hx with
        | ptr gh g _ _ hi hgv =>
          obtain ⟨_, gh', g', vs, e, hi', hgv', _, hh, hsz, hcell, _⟩ := c.objs id _ hob
          rw [hi] at hi'; cases hi'
          rw [hgv] at hgv'; cases hgv'
          rw [arrC_len] at hsz
          obtain ⟨val, hrun, hr⟩ := run_loadVar_rep (P := P) (g := g) (off := off) (w := w) (ro := ro) (ι := ι) (cs := [cell1 t (l.getD off (E.dflt t))]) (fun j c hc => by
            cases j with
            | succ j => simp at hc
            | zero =>
              simp only [List.getElem?_cons_zero, Option.some.injEq] at hc
              subst hc
              have hv := Array.getElem?_eq_getElem (show off < vs.size by omega)
              have hcc : (arrC t l)[off]? = some (cell1 t (l.getD off (E.dflt t))) := by simp [arrC, hlt, List.getD]
              exact ⟨_, by rw [Nat.add_zero, cell_of_row w g _ vs e _ hh]; exact hv, (hcell off _ _ hv hcc).2⟩) hq
          show OpDone E o a w ι ro S.next (.test (Nat.blt off l.length) q)
          rw [hok]
          exact c.pure (by simp [execOp, ho, hvx, Instr.loadAt, Instr.sureAddr, hrun]) hr
      · cases h
    · cases h
  · cases h
theorem done_storeA (c : Ctx E S asm a w ι ro) {o : Oper} {T : TypeId} {x y : Operand} (ho : o.op = .store T x y) {ok : Bool} {u : Nat × AObj E} (h : evStoreA S.objs T (getA S.tmps asm x) (getA S.tmps asm y) = some (ok, u)) (hok : ok = true) :
    OpDone E o a w ι ro S.next ⟨ok, .any, some u, none⟩ := by
  unfold evStoreA at h
  split at h
  · rename_i id off hX
    split at h
    · rename_i t l hob
      split at h
      · rename_i cc hcs hsz
        split at h
        · rename_i d hd
          split at h
          · rename_i z hz
            cases h
            have hlt : off < l.length := by simpa [Nat.blt_eq] using hok
            obtain ⟨hagg, hbox⟩ := c.objs id _ hob
            have hbox' : ObjOk E w ro ι id (.box (arrC t l)) := by
              obtain ⟨gh, g, vs, e, h1, h2, h3, h4, h5, h6, h7, h8⟩ := hbox
              exact ⟨gh, g, vs, e, h1, h2, h3, h4, h5, h6, h7.1 rfl, h8⟩
            let S' : ASt E := ⟨S.n, S.tmps, (id, .box (arrC t l)) :: S.objs, S.next⟩
            have c' : Ctx E S' asm a w ι ro := ⟨c.tm, c.asm, c.rolt, fun id' ob hl => by
              simp only [S', look_nil, look_cons] at hl
              split at hl
              · rename_i hb
                have := Nat.eq_of_beq_eq_true hb
                subst this
                cases hl
                exact hbox'
              · exact c.objs id' ob hl, c.fresh⟩
            have hcell : cellOk cc = true := by
              unfold toD at hd
              split at hd <;> first | rfl | cases hd
            have hst : evStore S'.objs T (getA S'.tmps asm x) (getA S'.tmps asm y) = some (id, .box ((arrC t l).take off ++ [cc] ++ (arrC t l).drop (off + 1))) := by
              show evStore ((id, .box (arrC t l)) :: S.objs) T (getA S.tmps asm x) (getA S.tmps asm y) = _
              unfold evStore
              rw [hX, hcs, hsz]
              simp only [look_cons, Nat.beq_refl, if_true]
              rw [if_pos ⟨rfl, by rw [arrC_len]; omega, by simp [allOk, hcell]⟩]
            have hdone := done_store c' ho hst
            rw [hok]
            refine OpDone.upd hdone rfl fun w' ro' ι' hb => ?_
            obtain ⟨gh, g, vs, e, h1, h2, h3, h4, h5, h6, h7, h8⟩ := hb
            have hl1 : (arrC t l).length = l.length := arrC_len t l
            refine ⟨hagg, gh, g, vs, e, h1, h2, h3, h4, ?_, fun j v k hv hk => ?_, ⟨fun _ => h7, fun hf => by cases hf⟩, h8⟩
            · rw [h5, arrC_len]
              simp only [List.length_append, List.length_take, List.length_drop, List.length_singleton, List.length_set]
              omega
            · refine ⟨?_, ?_⟩ <;> unfold arrC at hk <;> rw [List.getElem?_map] at hk
              all_goals
                cases hj : (l.set off z)[j]? with
                | none => rw [hj] at hk; cases hk
                | some y0 =>
                  rw [hj] at hk
                  cases hk
                  by_cases hjo : j = off
                  · subst hjo
                    have e1 : y0 = z := by simpa [hlt] using hj.symm
                    subst e1
                    have hcc : ((arrC t l).take j ++ [cc] ++ (arrC t l).drop (j + 1))[j]? = some cc := by
                      rw [List.append_assoc, List.getElem?_append_right (by simp; omega)]
                      simp [show min j (arrC t l).length = j by omega]
                    obtain ⟨g1, g2⟩ := h6 j v cc hv hcc
                    obtain ⟨c0, q1, q2⟩ := cell1_of hagg y0
                    have hle := E.fold_ok t [d] y0 hz
                    rw [q1] at hle
                    have hdr := (hle.at_ 0 d c0 rfl rfl).rep (toD_rep g2 hd)
                    first | exact g1 | (rw [q2]; exact .d _ _ hdr)
                  · have hjl : j < l.length := by have := (List.getElem?_eq_some_iff.1 hj).1; simpa using this
                    have e1 : l[j]? = some y0 := by rw [List.getElem?_set_ne (by omega)] at hj; exact hj
                    have hcc : ((arrC t l).take off ++ [cc] ++ (arrC t l).drop (off + 1))[j]? = some (cell1 t y0) := by
                      have ha : (arrC t l)[j]? = some (cell1 t y0) := by simp [arrC, e1]
                      rcases Nat.lt_or_ge j off with hlo | hge
                      · rw [List.append_assoc, List.getElem?_append_left (by simp; omega), List.getElem?_take_of_lt hlo]; exact ha
                      · rw [List.getElem?_append_right (by simp; omega)]
                        simp only [List.length_append, List.length_take, List.length_singleton, List.getElem?_drop]
                        rw [show off + 1 + (j - (min off (arrC t l).length + 1)) = j by omega]
                        exact ha
                    obtain ⟨g1, g2⟩ := h6 j v _ hv hcc
                    first | exact g1 | exact g2
          · cases h
        · cases h
      · cases h
    · cases h
  · cases h
end
end
end
end Go.Proofs.YtiahkjjfhnfdiaaGreatDoor.Mir
namespace Go.Proofs.YtiahkjjfhnfdiaaGreatDoor.Mir
open Go Go.RowKit
noncomputable section
section
variable {P : Program} {E : Env P} {w : World} {ro : Nat → Nat → Prop} {ι : Nat → Option Gh} {S : ASt E} {asm : List (Nat × Bool)} {a : Act}
theorem done_move (c : Ctx E S asm a w ι ro) {o : Oper} {x : Operand} (ho : o.op = .move x ∨ o.op = .assign x) : OpDone E o a w ι ro S.next (.pure (getA S.tmps asm x)) :=
  c.pure (val := a.eval x) (by rcases ho with ho | ho <;> simp [execOp, ho]) (c.get x)
theorem asm_cons {j : Nat} {b : Bool} (hs : AsmOk a asm) (h : a.tmps[j]? = some (.bool b)) : AsmOk a ((j, b) :: asm) := by
  intro i b' hb
  unfold hasAsm at hb
  simp only [Bool.or_eq_true, Bool.and_eq_true] at hb
  rcases hb with ⟨h1, h2⟩ | hb
  · have e1 := Nat.eq_of_beq_eq_true h1
    have e2 : b = b' := by simpa using h2
    subst e1; subst e2
    exact h
  · exact hs i b' hb
theorem done_pick (c : Ctx E S asm a w ι ro) {o : Oper} {x y z : Operand} (ho : o.op = .pick x y z) {r : AV E} (h : evPick S.tmps asm x y z = some r) : OpDone E o a w ι ro S.next (.pure r) := by
  unfold evPick at h
  cases x with
  | tmp j =>
    have hx := c.get (.tmp j)
    cases hg : getA S.tmps asm (.tmp j) with
    | d cv =>
      cases cv with
      | bool b =>
        rw [hg] at h hx
        have hb := hx.bool_inv
        have hj : a.tmps[j]? = some (.bool b) := by
          have hb' : a.tmps.getD j undef = .bool b := hb
          by_cases hlt : j < a.tmps.size
          · simp [hlt] at hb' ⊢; exact hb'
          · simp [hlt] at hb'
            cases hb'
        simp only at h
        cases b with
        | true =>
          have hy := getA_rep (E := E) c.tm (asm_cons c.asm hj) y
          cases hgy : getA S.tmps ((j, true) :: asm) y with
          | d cy =>
            cases cy with
            | bool by_ =>
              rw [hgy] at h hy
              cases hgz : getA S.tmps ((j, false) :: asm) z with
              | d cz =>
                cases cz with
                | bool bz =>
                  rw [hgz] at h
                  cases h
                  exact c.pure (val := .bool by_) (by simp [execOp, ho, hb, asBool, hy.bool_inv]) (.d _ _ (.bool _))
                | _ => rw [hgz] at h; cases h
              | _ => rw [hgz] at h; cases h
            | _ => rw [hgy] at h; cases h
          | _ => rw [hgy] at h; cases h
        | false =>
          have hz := getA_rep (E := E) c.tm (asm_cons c.asm hj) z
          cases hgy : getA S.tmps ((j, true) :: asm) y with
          | d cy =>
            cases cy with
            | bool by_ =>
              rw [hgy] at h
              cases hgz : getA S.tmps ((j, false) :: asm) z with
              | d cz =>
                cases cz with
                | bool bz =>
                  rw [hgz] at h hz
                  cases h
                  exact c.pure (val := .bool bz) (by simp [execOp, ho, hb, asBool, hz.bool_inv]) (.d _ _ (.bool _))
                | _ => rw [hgz] at h; cases h
              | _ => rw [hgz] at h; cases h
            | _ => rw [hgy] at h; cases h
          | _ => rw [hgy] at h; cases h
      | _ => rw [hg] at h; cases h
    | _ => rw [hg] at h; cases h
  | _ => cases h
theorem run_evInt (op : BinOp) (T : TypeId) (k : IntKind) (m n : Int) {ok : Bool} {r : AV E} (h : evInt op k m n = some (ok, r)) (hok : ok = true) :
    ∃ val, (binOp op T (.int k m) (.int k n)).run P w = .ok val w ∧ Rep E w ro ι val r := by
  cases op <;> simp only [evInt] at h <;> first | (cases h; done) | skip
  all_goals
    simp only [Option.some.injEq, Prod.mk.injEq] at h
    obtain ⟨rfl, rfl⟩ := h
  all_goals first
    | (refine ⟨_, ?_, .d _ _ (.int _ _)⟩; simp [binOp, Op.intArith, Op.intBits, bits]; done)
    | (refine ⟨_, ?_, .d _ _ (.bool _)⟩; simp [binOp, Op.intCmp]; done)
    | skip
  all_goals
    have h0 : ¬ n = 0 := by simpa using hok
    refine ⟨_, ?_, .d _ _ (.int _ _)⟩
    simp [binOp, Op.intDiv, h0]
theorem run_evStr (op : BinOp) (T : TypeId) (m n : List UInt8) {ok : Bool} {r : AV E} (h : evStr op m n = some (ok, r)) (hok : ok = true) :
    ∃ val, (binOp op T (.string ⟨m.toArray⟩) (.string ⟨n.toArray⟩)).run P w = .ok val w ∧ Rep E w ro ι val r := by
  cases op <;> simp only [evStr] at h <;> first | (cases h; done) | skip
  all_goals
    simp only [Option.some.injEq, Prod.mk.injEq] at h
    obtain ⟨rfl, rfl⟩ := h
  all_goals first
    | exact ⟨_, by simp [go_sem], .d _ _ (.bool _)⟩
    | skip
  have h0 : m.length + n.length ≤ maxStr := by simpa using hok
  unfold maxStr at h0
  refine ⟨_, ?_, .d _ _ (.str _)⟩
  have := run_string_add_sum (P := P) (w := w) ⟨m.toArray⟩ ⟨n.toArray⟩ (by show m.toArray.size + n.toArray.size ≤ _; simp; omega)
  rw [ByteArray.mk_append_mk] at this
  simp only [binOp]
  exact this
theorem run_equalIn_bool (q : Nat) {T : TypeId} (hu : P.underlying T = some .bool) (m n : Bool) : (Op.equalIn (q + 1) T (.bool m) (.bool n)).run P w = .ok (m == n) w := by
  simp [Op.equalIn, run_underlying hu]
theorem run_boolEq (T : TypeId) (hT : isBoolT P T = true) (m n : Bool) : (binOp .eql T (.bool m) (.bool n)).run P w = .ok (.bool (m == n)) w ∧ (binOp .neq T (.bool m) (.bool n)).run P w = .ok (.bool !(m == n)) w := by
  unfold isBoolT at hT
  cases hu : P.underlying T with
  | none => rw [hu] at hT; cases hT
  | some d =>
    rw [hu] at hT
    cases d <;> first | (cases hT; done) | skip
    have h := run_equalIn_bool (P := P) (w := w) 9999 hu m n
    have e : Op.equal T (.bool m) (.bool n) = Op.equalIn (9999 + 1) T (.bool m) (.bool n) := rfl
    constructor
    · show (do pure (Value.bool (← Op.equal T (.bool m) (.bool n))) : Sem Value).run P w = _
      rw [e]
      simp only [Sem.run_bind, h, Result.andThen_ok, Sem.run_pure]
    · show (do pure (Value.bool (!(← Op.equal T (.bool m) (.bool n)))) : Sem Value).run P w = _
      rw [e]
      simp only [Sem.run_bind, h, Result.andThen_ok, Sem.run_pure]
theorem cmp_eq (m n : Int) : (some (compare m n) == some Ordering.eq) = (m == n) := by
  rw [Int.compare_eq_ite_lt]
  by_cases h : m < n
  · rw [if_pos h]; symm; simp only [beq_eq_false_iff_ne, show (some Ordering.lt == some Ordering.eq) = false from rfl]; omega
  · rw [if_neg h]
    by_cases h2 : n < m
    · rw [if_pos h2]; symm; simp only [beq_eq_false_iff_ne, show (some Ordering.gt == some Ordering.eq) = false from rfl]; omega
    · rw [if_neg h2]; symm; simp only [beq_iff_eq, show (some Ordering.eq == some Ordering.eq) = true from rfl]; omega
theorem cmp_lt (m n : Int) : (some (compare m n) == some Ordering.lt) = decide (m < n) := by
  rw [Int.compare_eq_ite_lt]
  by_cases h : m < n
  · rw [if_pos h]; simp [h]
  · rw [if_neg h]
    by_cases h2 : n < m
    · rw [if_pos h2]; simp [h]
    · rw [if_neg h2]; simp [h]
theorem cmp_gt (m n : Int) : (some (compare m n) == some Ordering.gt) = decide (n < m) := by
  rw [Int.compare_eq_ite_lt]
  by_cases h : m < n
  · rw [if_pos h]; symm; simp only [decide_eq_false_iff_not, show (some Ordering.lt == some Ordering.gt) = false from rfl]; omega
  · rw [if_neg h]
    by_cases h2 : n < m
    · rw [if_pos h2]; simp [h2]
    · rw [if_neg h2]; simp [h2]
theorem cmp_le (m n : Int) : (some (compare m n) == some Ordering.lt || some (compare m n) == some Ordering.eq) = decide (m ≤ n) := by
  rw [cmp_lt, cmp_eq]
  by_cases h : m < n
  · simp [h, Int.le_of_lt h]
  · by_cases e : m = n
    · subst e; simp
    · have h2 : ¬ m ≤ n := by omega
      simp [h, e, h2]
theorem cmp_ge (m n : Int) : (some (compare m n) == some Ordering.gt || some (compare m n) == some Ordering.eq) = decide (n ≤ m) := by
  rw [cmp_gt, cmp_eq]
  by_cases h : n < m
  · simp [h, Int.le_of_lt h]
  · by_cases e : m = n
    · subst e; simp
    · have h2 : ¬ n ≤ m := by omega
      simp [h, e, h2]
theorem run_evFlt (op : BinOp) (T : TypeId) (x y : Nat) (m n : Int) (hx : F64.IsF x m) (hy : F64.IsF y n) {ok : Bool} {r : AV E} (h : evFlt op m n = some (ok, r)) (hok : ok = true) :
    ∃ val, (binOp op T (.float .f64 x) (.float .f64 y)).run P w = .ok val w ∧ Rep E w ro ι val r := by
  have ord : (fltOk m && fltOk n) = true → FloatKind.f64.format.order x y = some (compare m n) := fun h => by
    simp only [Bool.and_eq_true, fltOk, decide_eq_true_eq] at h
    exact F64.isf_order hx hy h.1 h.2
  cases op <;> simp only [evFlt] at h <;> first | (cases h; done) | skip
  all_goals
    simp only [Option.some.injEq, Prod.mk.injEq] at h
    obtain ⟨rfl, rfl⟩ := h
  · simp only [Bool.and_eq_true, sumOk, decide_eq_true_eq] at hok
    obtain ⟨r, hr, hf⟩ := F64.isf_add hx hy hok.1 hok.2
    exact ⟨.float .f64 r, by simp [binOp, run_floatArith w hr], .d _ _ (.flt _ _ hf)⟩
  all_goals
    have ho := ord hok
    refine ⟨_, ?_, .d _ _ (.bool _)⟩
    simp only [binOp, Op.floatCmp, ho, ne_eq, not_true, if_false, Sem.run_pure]
    first
      | rw [cmp_le]
      | rw [cmp_ge]
      | rw [cmp_lt]
      | rw [cmp_gt]
      | rw [cmp_eq]
      | rw [bne, cmp_eq]; rfl
theorem done_bin (c : Ctx E S asm a w ι ro) {o : Oper} {op : BinOp} {T T' : TypeId} {x y : Operand} (ho : o.op = .binOp op T x y T') {r : Bool × AV E} (h : evBin op T (getA S.tmps asm x) (getA S.tmps asm y) = some r) (hok : r.1 = true) :
    OpDone E o a w ι ro S.next (.test r.1 r.2) := by
  obtain ⟨ok, r⟩ := r
  have hx := c.get x
  have hy := c.get y
  generalize hvx : a.eval x = vx at hx
  generalize hvy : a.eval y = vy at hy
  generalize getA S.tmps asm x = X at *
  generalize getA S.tmps asm y = Y at *
  unfold evBin at h
  split at h
  · rename_i k m k' n
    have e1 := hx.int_inv
    have e2 := hy.int_inv
    subst e1; subst e2
    split at h
    · rename_i q hq
      cases h
      unfold evSh at hq
      cases op <;> first | (cases hq; done) | skip
      all_goals
        cases hq
        simp only [Bool.and_eq_true, decide_eq_true_eq] at hok
        first
          | exact .pure c.rolt c.fresh (val := .int k (k.wrap (m * 2 ^ n.toNat))) (by simp [execOp, ho, hvx, hvy, eqGuard, binOp_shl, shift_shl k k' m n hok.1 hok.2]) rfl rfl (.d _ _ (.int k _))
          | exact .pure c.rolt c.fresh (val := .int k (m / 2 ^ n.toNat)) (by simp [execOp, ho, hvx, hvy, eqGuard, binOp_shr, shift_shr k k' m n hok.1 hok.2]) rfl rfl (.d _ _ (.int k _))
    split at h
    · rename_i hk
      have hkk : k = k' := by simpa [sameKind] using hk
      subst hkk
      obtain ⟨val, hrun, hr⟩ := run_evInt (P := P) (E := E) (w := w) (ro := ro) (ι := ι) op T k m n h hok
      exact .pure c.rolt c.fresh (val := val) (by cases op <;> simp [execOp, ho, hvx, hvy, eqGuard, hrun]) rfl rfl hr
    · cases h
  · rename_i m n
    have e1 := hx.str_inv
    have e2 := hy.str_inv
    subst e1; subst e2
    obtain ⟨val, hrun, hr⟩ := run_evStr (P := P) (E := E) (w := w) (ro := ro) (ι := ι) op T m n h hok
    exact .pure c.rolt c.fresh (val := val) (by cases op <;> simp [execOp, ho, hvx, hvy, eqGuard, hrun]) rfl rfl hr
  · rename_i m n
    obtain ⟨x', e1, hx'⟩ := hx.flt_inv
    obtain ⟨y', e2, hy'⟩ := hy.flt_inv
    subst e1; subst e2
    obtain ⟨val, hrun, hr⟩ := run_evFlt (P := P) (E := E) (w := w) (ro := ro) (ι := ι) op T x' y' m n hx' hy' h hok
    exact .pure c.rolt c.fresh (val := val) (by cases op <;> simp [execOp, ho, hvx, hvy, eqGuard, hrun]) rfl rfl hr
  · rename_i m1 m2 n1 n2
    obtain ⟨x1, x2, e1, hx1, hx2⟩ := hx.cpx_inv
    obtain ⟨y1, y2, e2, hy1, hy2⟩ := hy.cpx_inv
    subst e1; subst e2
    have heq : ∀ (hk : (fltOk m1 && fltOk n1 && (fltOk m2 && fltOk n2)) = true), (F64.IsF x1 m1 → F64.IsF y1 n1 → (FloatKind.f64.format.order x1 y1 == some .eq) = (m1 == n1)) ∧ (F64.IsF x2 m2 → F64.IsF y2 n2 → (FloatKind.f64.format.order x2 y2 == some .eq) = (m2 == n2)) := by
      intro hk
      simp only [Bool.and_eq_true, fltOk, decide_eq_true_eq] at hk
      obtain ⟨⟨k1, k2⟩, k3, k4⟩ := hk
      exact ⟨fun p q => by rw [F64.isf_order p q k1 k2]; exact cmp_eq _ _, fun p q => by rw [F64.isf_order p q k3 k4]; exact cmp_eq _ _⟩
    cases op <;> first | (cases h; done) | skip
    rotate_left
    · cases h
      obtain ⟨q1, q2⟩ := heq hok
      refine .pure c.rolt c.fresh (val := .bool (m1 == n1 && m2 == n2)) ?_ rfl rfl (.d _ _ (.bool _))
      simp [execOp, ho, hvx, hvy, eqGuard, binOp, Op.complexOp, Op.Complex.cmp, asBool, Op.floatCmp, q1 hx1 hy1, q2 hx2 hy2]
    · cases h
      obtain ⟨q1, q2⟩ := heq hok
      refine .pure c.rolt c.fresh (val := .bool !(m1 == n1 && m2 == n2)) ?_ rfl rfl (.d _ _ (.bool _))
      simp [execOp, ho, hvx, hvy, eqGuard, binOp, Op.complexOp, Op.Complex.cmp, asBool, Op.floatCmp, q1 hx1 hy1, q2 hx2 hy2]
    cases h
    simp only [Bool.and_eq_true, sumOk, decide_eq_true_eq] at hok
    obtain ⟨⟨k1, k2⟩, k3, k4⟩ := hok
    obtain ⟨r1, hr1, hf1⟩ := F64.isf_add hx1 hy1 k1 k2
    obtain ⟨r2, hr2, hf2⟩ := F64.isf_add hx2 hy2 k3 k4
    have hs : cSumBits .add .f64 x1 x2 y1 y2 = some (r1, r2) := by simp [cSumBits, hr1, hr2]
    have hrun := run_complex_sum (P := P) (w := w) .add (.inl rfl) T .f64 x1 x2 y1 y2 r1 r2 hs
    exact .pure c.rolt c.fresh (val := .complex .f64 r1 r2) (by simp [execOp, ho, hvx, hvy, eqGuard, hrun]) rfl rfl (.d _ _ (.cpx _ _ _ _ hf1 hf2))
  · rename_i m n
    have e1 := hx.bool_inv
    have e2 := hy.bool_inv
    subst e1; subst e2
    split at h
    · rename_i hT
      obtain ⟨h1, h2⟩ := run_boolEq (P := P) (w := w) T hT m n
      cases op <;> first | (cases h; done) | skip
      · cases h
        exact .pure c.rolt c.fresh (val := .bool (m == n)) (by simp [execOp, ho, hvx, hvy, eqGuard, h1]) rfl rfl (.d _ _ (.bool _))
      · cases h
        exact .pure c.rolt c.fresh (val := .bool !(m == n)) (by simp only [execOp, ho, hvx, hvy, eqGuard]; simp [h2]) rfl rfl (.d _ _ (.bool _))
    · cases h
  · cases h
theorem done_un (c : Ctx E S asm a w ι ro) {o : Oper} {op : UnOp} {T : TypeId} {x : Operand} (ho : o.op = .unOp op T x) {r : Bool × AV E} (h : evUn op (getA S.tmps asm x) = some r) (hok : r.1 = true) : OpDone E o a w ι ro S.next (.test r.1 r.2) := by
  have hx := c.get x
  generalize hvx : a.eval x = vx at hx
  generalize getA S.tmps asm x = X at *
  unfold evUn at h
  split at h
  · rename_i k n
    have e1 := hx.int_inv
    subst e1
    cases h
    exact .pure c.rolt c.fresh (val := .int k (k.wrap (0 - n))) (by simp [execOp, ho, hvx, Op.unary, Op.intArith]) rfl rfl (.d _ _ (.int _ _))
  · rename_i k n
    have e1 := hx.int_inv
    subst e1
    cases h
    exact .pure c.rolt c.fresh (val := .int k (bits .xor k (if k.signed then -1 else k.max) n)) (by simp only [execOp, ho, hvx, Op.unary, intBits_xor]; rfl) rfl rfl (.d _ _ (.int _ _))
  · rename_i n
    obtain ⟨b, e1, hb⟩ := hx.flt_inv
    subst e1
    cases h
    have hn : n.natAbs < 9007199254740992 := of_decide_eq_true hok
    exact .pure c.rolt c.fresh (val := .float .f64 (Op.negFloat .f64 b)) (by simp [execOp, ho, hvx, Op.unary]) rfl rfl (.d _ _ (.flt _ _ (F64.isf_neg hb hn)))
  · rename_i b
    have e1 := hx.bool_inv
    subst e1
    cases h
    exact .pure c.rolt c.fresh (val := .bool !b) (by simp [execOp, ho, hvx, Op.unary]) rfl rfl (.d _ _ (.bool _))
  · cases h
theorem isF64T_inv {T : TypeId} (h : isF64T P T = true) : P.underlying T = some (.float .f64) := by
  unfold isF64T at h
  split at h
  · assumption
  · cases h
theorem isIntT_inv {T : TypeId} {k : IntKind} (h : isIntT P T = some k) : P.underlying T = some (.int k) := by
  unfold isIntT at h
  cases hu : P.underlying T with
  | none => rw [hu] at h; cases h
  | some d => rw [hu] at h; cases d <;> first | (cases h; done) | (cases h; rfl)
end
end
end Go.Proofs.YtiahkjjfhnfdiaaGreatDoor.Mir
namespace Go.Proofs.YtiahkjjfhnfdiaaGreatDoor.Mir
open Go Go.RowKit
noncomputable section
section
variable {P : Program} {E : Env P} {w : World} {ro : Nat → Nat → Prop} {ι : Nat → Option Gh} {S : ASt E} {asm : List (Nat × Bool)} {a : Act}
theorem set_fold (off : Nat) : ∀ (l : List Value) (k : Nat) (C : Array Value),
    ((l.zipIdx k).foldl (fun (cs : Array Value) p => cs.setIfInBounds (off + p.2) p.1) C).size = C.size ∧
    ∀ q, ((l.zipIdx k).foldl (fun (cs : Array Value) p => cs.setIfInBounds (off + p.2) p.1) C)[q]? = if off + k ≤ q ∧ q < off + k + l.length ∧ q < C.size then l[q - off - k]? else C[q]?
  | [], k, C => by
    refine ⟨rfl, fun q => ?_⟩
    simp
    omega
  | x :: r, k, C => by
    obtain ⟨h1, h2⟩ := set_fold off r (k + 1) (C.setIfInBounds (off + k) x)
    simp only [List.zipIdx_cons, List.foldl_cons]
    refine ⟨h1.trans (by simp), fun q => ?_⟩
    rw [h2 q]
    simp only [Array.size_setIfInBounds, List.length_cons]
    by_cases hq : q = off + k
    · subst hq
      rw [if_neg (by omega)]
      by_cases hs : off + k < C.size
      · rw [if_pos (by omega)]
        simp [hs]
      · rw [if_neg (by omega)]
        simp [hs]
    · by_cases hin : off + (k + 1) ≤ q ∧ q < off + (k + 1) + r.length ∧ q < C.size
      · rw [if_pos hin, if_pos (by omega)]
        have e : q - off - k = (q - off - (k + 1)) + 1 := by omega
        rw [e, List.getElem?_cons_succ]
      · rw [if_neg hin, if_neg (by omega)]
        rw [Array.getElem?_setIfInBounds_ne (by omega)]
def Rel (E : Env P) (w : World) (ro : Nat → Nat → Prop) (ι : Nat → Option Gh) (vs : Array Value) (xs : List (AV E)) : Prop :=
  vs.size = xs.length ∧ ∀ (j : Nat) v x, vs[j]? = some v → xs[j]? = some x → Rep E w ro ι v x
theorem fill_rel {place place' : Nat → Option (Nat × Nat)} (hp : ∀ i x, place' i = some x → place i = some x) : ∀ (ps : List (Nat × Value)) (qs : List (Nat × AV E)) (C : Array Value) (X Y : List (AV E)),
    ps.length = qs.length → (∀ (i : Nat) p q, ps[i]? = some p → qs[i]? = some q → p.1 = q.1 ∧ Rep E w ro ι p.2 q.2) → Rel E w ro ι C X → fillA place' X qs = some Y →
    ∃ D, Instr.fill place C ps = some D ∧ Rel E w ro ι D Y
  | [], [], C, X, Y, _, _, hrel, h => by cases h; exact ⟨C, rfl, hrel⟩
  | p :: ps, q :: qs, C, X, Y, hl, hpq, hrel, h => by
    obtain ⟨i, v⟩ := p
    obtain ⟨i', x⟩ := q
    obtain ⟨h1, h2⟩ := hpq 0 _ _ rfl rfl
    simp only at h1 h2
    subst h1
    unfold fillA at h
    cases hpl : place' i with
    | none => rw [hpl] at h; cases h
    | some os =>
      obtain ⟨off, size⟩ := os
      rw [hpl] at h
      simp only at h
      cases hc : cellsA x with
      | none => rw [hc] at h; cases h
      | some vs =>
        rw [hc] at h
        simp only at h
        split at h
        · rename_i hcond
          obtain ⟨hsz, hle⟩ := hcond
          obtain ⟨c1, c2⟩ := cellsA_rep h2 hc
          have hC := hrel.1
          obtain ⟨f1, f2⟩ := set_fold off v.cells.toList 0 C
          have hrel' : Rel E w ro ι (v.cells.zipIdx.foldl (fun cs (c, j) => cs.setIfInBounds (off + j) c) C) (X.take off ++ vs ++ X.drop (off + size)) := by
            have e : (v.cells.zipIdx.foldl (fun cs (c, j) => cs.setIfInBounds (off + j) c) C) = ((v.cells.toList.zipIdx 0).foldl (fun (cs : Array Value) p => cs.setIfInBounds (off + p.2) p.1) C) := by
              rw [← Array.foldl_toList, Array.toList_zipIdx]
            rw [e]
            refine ⟨?_, fun j u y hu hy => ?_⟩
            · rw [f1, hC]
              simp only [List.length_append, List.length_take, List.length_drop]
              omega
            · rw [f2 j] at hu
              simp only [Nat.add_zero, Array.length_toList, Nat.sub_zero] at hu
              rcases Nat.lt_or_ge j off with hjo | hjo
              · rw [if_neg (by omega)] at hu
                rw [List.append_assoc, List.getElem?_append_left (by simp; omega), List.getElem?_take_of_lt hjo] at hy
                exact hrel.2 j u y hu hy
              · rcases Nat.lt_or_ge j (off + size) with hjn | hjn
                · rw [if_pos (by omega)] at hu
                  rw [List.append_assoc, List.getElem?_append_right (by simp; omega), List.getElem?_append_left (by simp; omega)] at hy
                  have e2 : (X.take off).length = off := by simp; omega
                  rw [e2] at hy
                  exact (c2 (j - off) u y (by simpa using hu) hy).2
                · rw [if_neg (by omega)] at hu
                  have e2 : (X.take off ++ vs).length = off + size := by simp; omega
                  rw [List.getElem?_append_right (by omega), e2, List.getElem?_drop, show off + size + (j - (off + size)) = j from by omega] at hy
                  exact hrel.2 j u y hu hy
          obtain ⟨D, hD, hr⟩ := fill_rel hp ps qs _ _ Y (by simpa using hl) (fun i p q hp hq => hpq (i + 1) p q (by simpa using hp) (by simpa using hq)) hrel' h
          refine ⟨D, ?_, hr⟩
          unfold Instr.fill
          rw [hp i _ hpl]
          simp only
          rw [if_neg (by simp; omega)]
          exact hD
        · cases h
  | [], _ :: _, _, _, _, hl, _, _, _ => by simp at hl
  | _ :: _, [], _, _, _, hl, _, _, _ => by simp at hl
theorem parts_rel (c : Ctx E S asm a w ι ro) (ps : Array (Nat × Operand)) : ∀ (i : Nat) p q, (ps.map fun (i, x) => (i, a.eval x)).toList[i]? = some p → (partsA S.tmps asm ps)[i]? = some q → p.1 = q.1 ∧ Rep E w ro ι p.2 q.2 := by
  intro i p q hp hq
  unfold partsA at hq
  rw [List.getElem?_map] at hq
  rw [Array.toList_map, List.getElem?_map] at hp
  cases hx : ps.toList[i]? with
  | none => rw [hx] at hq; cases hq
  | some x =>
    rw [hx] at hp hq
    cases hp; cases hq
    exact ⟨rfl, c.get x.2⟩
theorem zero_rel (z : Value) : Rel E w ro ι z.cells (z.cells.toList.map constS) := by
  refine ⟨by simp, fun j v x hv hx => ?_⟩
  rw [List.getElem?_map] at hx
  have : z.cells.toList[j]? = some v := by simpa using hv
  rw [this] at hx
  cases hx
  exact constS_rep v
theorem built_rel {T : TypeId} {ps : List (Nat × Value)} {qs : List (Nat × AV E)} {cs : List (AV E)} (hl : ps.length = qs.length) (hpq : ∀ (i : Nat) p q, ps[i]? = some p → qs[i]? = some q → p.1 = q.1 ∧ Rep E w ro ι p.2 q.2)
    (h : builtA T qs = some cs) : ∃ D, P.built T ps = some D ∧ Rel E w ro ι D cs := by
  unfold builtA at h
  unfold Program.built
  cases hit : P.info? T with
  | none => rw [hit] at h; cases h
  | some it =>
    rw [hit] at h
    cases hu : P.underlying T with
    | none => rw [hu] at h; cases h
    | some d =>
      rw [hu] at h
      cases d <;> try (cases h; done)
      case array n e =>
        simp only at h ⊢
        cases hz : it.zero with
        | none => rw [hz] at h; cases h
        | some z =>
          rw [hz] at h
          cases hie : P.info? e with
          | none => rw [hie] at h; cases h
          | some ie =>
            rw [hie] at h
            exact fill_rel (fun _ _ h => h) ps qs _ _ cs hl hpq (zero_rel z) h
      case struct fields =>
        simp only at h ⊢
        cases hz : it.zero with
        | none => rw [hz] at h; cases h
        | some z =>
          rw [hz] at h
          cases hp : fields.toList.mapM (fun f => (P.info? f.type).map fun i => (f.offset, i.size)) with
          | none => rw [hp] at h; cases h
          | some places =>
            rw [hp] at h
            exact fill_rel (fun _ _ h => h) ps qs _ _ cs hl hpq (zero_rel z) h
theorem done_build (c : Ctx E S asm a w ι ro) {o : Oper} {T : TypeId} {ps : Array (Nat × Operand)} (ho : o.op = .build T ps) {r : AV E} (h : evBuild T (partsA S.tmps asm ps) = some r) : OpDone E o a w ι ro S.next (.pure r) := by
  unfold evBuild at h
  cases hb : builtA T (partsA S.tmps asm ps) with
  | none => rw [hb] at h; cases h
  | some cs =>
    rw [hb] at h
    cases h
    obtain ⟨D, hD, hrel⟩ := built_rel (by simp [partsA]) (parts_rel c ps) hb
    exact c.pure (val := .agg D) (by simp only [execOp, ho, Sem.run_bind, run_build w T _ D hD, Result.andThen_ok, Sem.run_pure]) (packA_rep (.agg D cs hrel.1 hrel.2))
theorem done_field (c : Ctx E S asm a w ι ro) {o : Oper} {s : TypeId} {x : Operand} {f : Nat} (ho : o.op = .fieldAddr s x f) {r : AV E} (h : evField s (getA S.tmps asm x) f = some r) : OpDone E o a w ι ro S.next (.pure r) := by
  have hx := c.get x
  generalize hvx : a.eval x = vx at hx
  generalize getA S.tmps asm x = X at *
  unfold evField at h
  split at h
  · rename_i fs hu
    split at h
    · rename_i fl hfl
      split at h
      · rename_i n hn
        obtain ⟨i, d, hinfo, hd, hin⟩ := sizeT_inv hn
        split at h
        · rename_i id off
          cases h
          cases hx with
          | ptr gh g _ _ hi hgv =>
            exact c.pure (val := .pointer (some ⟨g, off + fl.offset, none⟩)) (by simp [execOp, ho, hvx, Instr.fieldAt, run_underlying hu, hfl, Instr.sureAddr, fieldPlace, run_sizeOf hinfo, hin, add_none]) (.ptr gh g id _ hi hgv)
        · rename_i cs
          cases h
          cases hx with
          | pelt g off fv _ h1 h2 =>
            refine c.pure (val := .pointer (some ⟨g, off + fl.offset, none⟩)) (by simp [execOp, ho, hvx, Instr.fieldAt, run_underlying hu, hfl, Instr.sureAddr, fieldPlace, run_sizeOf hinfo, hin, add_none])
              (.pelt g (off + fl.offset) (fun j => fv (fl.offset + j)) _ (fun j c hc => ?_) (fun j c hc => ?_))
            · rw [List.getElem?_drop] at hc
              rw [Nat.add_assoc]
              exact h1 _ c hc
            · rw [List.getElem?_drop] at hc
              exact h2 _ c hc
        · rename_i id i off
          cases h
          cases hx with
          | elt gh g _ _ _ cap hi hgv hlt =>
            exact c.pure (val := .pointer (some ⟨g, i * gh.sz + off + fl.offset, none⟩)) (by simp [execOp, ho, hvx, Instr.fieldAt, run_underlying hu, hfl, Instr.sureAddr, fieldPlace, run_sizeOf hinfo, hin, add_none]) (by rw [Nat.add_assoc]; exact .elt gh g id i _ cap hi hgv hlt)
        · cases h
      · cases h
    · cases h
  · cases h
theorem run_part {T : TypeId} {vs : Array Value} {cs : List (AV E)} {off : Nat} {r : AV E} (hrel : Rel E w ro ι vs cs) (h : takeA T (cs.drop off) = some r) : ∃ val, (part T vs off).run P w = .ok val w ∧ Rep E w ro ι val r := by
  unfold takeA at h
  cases hsz : sizeT P T with
  | none => rw [hsz] at h; cases h
  | some n =>
    obtain ⟨i, d, hi, hd, hn⟩ := sizeT_inv hsz
    rw [hsz] at h
    simp only at h
    by_cases ha : isAggT P T = true
    · rw [if_pos ha] at h
      split at h
      · rename_i hle
        cases h
        have hlen := hrel.1
        simp only [List.length_drop] at hle
        refine ⟨.agg (vs.extract off (off + n)), ?_, packA_rep (.agg _ _ (by simp; omega) (fun j v c hv hc => ?_))⟩
        · unfold part
          simp [run_isAgg hd, ha, run_sizeOf hi, hn]
        · have hj : j < n := by have := (List.getElem?_eq_some_iff.1 hc).1; simp at this; omega
          rw [List.getElem?_take_of_lt hj, List.getElem?_drop] at hc
          refine hrel.2 (off + j) v c ?_ hc
          rw [Array.getElem?_extract] at hv
          split at hv
          · exact hv
          · cases hv
      · cases h
    · rw [if_neg ha] at h
      rw [List.getElem?_drop, Nat.add_zero] at h
      have hlt : off < vs.size := by rw [hrel.1]; exact (List.getElem?_eq_some_iff.1 h).1
      refine ⟨vs[off], ?_, hrel.2 off _ r (Array.getElem?_eq_getElem hlt) h⟩
      unfold part
      simp [run_isAgg hd, ha, hlt]
theorem done_fieldV (c : Ctx E S asm a w ι ro) {o : Oper} {s : TypeId} {x : Operand} {f : Nat} (ho : o.op = .field s x f) {r : AV E} (h : evFieldV s (getA S.tmps asm x) f = some r) : OpDone E o a w ι ro S.next (.pure r) := by
  have hx := c.get x
  generalize hvx : a.eval x = vx at hx
  generalize getA S.tmps asm x = X at *
  unfold evFieldV at h
  split at h
  · rename_i fs hu
    split at h
    · rename_i fl hfl
      split at h
      · rename_i cs hcs
        obtain ⟨k1, k2⟩ := cellsA_rep hx hcs
        have hrel : Rel E w ro ι vx.cells cs := ⟨k1, fun j v x hv hx => (k2 j v x hv hx).2⟩
        split at h
        · cases hx with
          | st vs t y ha hrow =>
            obtain ⟨val, hrun, hr⟩ := run_part (P := P) hrel h
            exact c.pure (val := val) (by simp only [Value.cells] at hrun; simp [execOp, ho, hvx, Instr.field, run_underlying hu, hfl, asAgg, hrun]) hr
        · cases hx with
          | agg vs cs' hs hi =>
            obtain ⟨val, hrun, hr⟩ := run_part (P := P) hrel h
            exact c.pure (val := val) (by simp only [Value.cells] at hrun; simp [execOp, ho, hvx, Instr.field, run_underlying hu, hfl, asAgg, hrun]) hr
        · cases h
      · cases h
    · cases h
  · cases h
theorem done_extract (c : Ctx E S asm a w ι ro) {o : Oper} {x : Operand} {i : Nat} (ho : o.op = .extract x i) {r : AV E} (h : evExtract (getA S.tmps asm x) i = some r) : OpDone E o a w ι ro S.next (.pure r) := by
  have hx := c.get x
  generalize hvx : a.eval x = vx at hx
  generalize getA S.tmps asm x = X at *
  unfold evExtract at h
  split at h
  · rename_i vs
    cases hx with
    | tup us _ hs hi =>
      split at h
      · cases h
      · rename_i v hv hne
        cases h
        have hlt : i < us.size := by rw [hs]; exact (List.getElem?_eq_some_iff.1 hne).1
        exact c.pure (val := us[i]) (by simp [execOp, ho, hvx, Instr.extract, hlt]) (hi i _ _ (Array.getElem?_eq_getElem hlt) hne)
      · cases h
  · cases h
end
end
end Go.Proofs.YtiahkjjfhnfdiaaGreatDoor.Mir
namespace Go.Proofs.YtiahkjjfhnfdiaaGreatDoor.Mir
open Go Go.RowKit
noncomputable section
section
variable {P : Program} {E : Env P} {w : World} {ro : Nat → Nat → Prop} {ι : Nat → Option Gh} {S : ASt E} {asm : List (Nat × Bool)} {a : Act}
theorem sliceA_rep {v : Value} {x : AV E} {e : TypeId} {t : E.Ty} {l : List (E.Den t)} (h : Rep E w ro ι v x) (hs : sliceA e x = some ⟨t, l⟩) : DRep E w ro v (.slice t l) := by
  unfold sliceA at hs
  split at hs
  · cases hs; exact toD_rep h rfl
  · cases hs; exact toD_rep h rfl
  · have := h.raw_inv
    subst this
    split at hs
    · cases hs; exact .nil _ _ _
    · cases hs
  · cases hs
theorem DRep.slice_inv {v : Value} {t : E.Ty} {l : List (E.Den t)} (h : DRep E w ro v (.slice t l)) : ∃ ad cap, v = .slice ad l.length cap ∧ (l = [] ∨ ∃ g off, ad = some ⟨g, off, none⟩ ∧ l.length ≤ cap ∧ ∃ f : Nat → Nat → Value,
    (∀ i x j c, l[i]? = some x → (E.cells t x)[j]? = some c → ro g (off + i * E.size t + j) ∧ w.cell? ⟨g, off + i * E.size t + j, none⟩ = some (f i j)) ∧
    (∀ i x j c, l[i]? = some x → (E.cells t x)[j]? = some c → DRep E w ro (f i j) c)) := by
  cases h with
  | nil t a cap => exact ⟨a, cap, rfl, .inl rfl⟩
  | slice t l g off cap f hl h1 h2 => exact ⟨_, cap, rfl, .inr ⟨g, off, rfl, hl, f, h1, h2⟩⟩
theorem elemT_inv {T e : TypeId} (h : elemT P T = some e) : P.underlying T = some (.slice e) := by
  unfold elemT at h
  cases hu : P.underlying T with
  | none => rw [hu] at h; cases h
  | some d => rw [hu] at h; cases d <;> first | (cases h; done) | (cases h; rfl)
theorem isStrT_inv {T : TypeId} (h : isStrT P T = true) : P.underlying T = some .string := by
  unfold isStrT at h
  cases hu : P.underlying T with
  | none => rw [hu] at h; cases h
  | some d => rw [hu] at h; cases d <;> first | (cases h; done) | rfl
theorem run_size_tid (t : E.Ty) : (sizeOf (E.tid t)).run P w = .ok (E.size t) w := by
  obtain ⟨i, z, hi, hs, _⟩ := E.info_ok t
  rw [run_sizeOf hi, hs]
theorem getD_get {α : Type} {l : List α} {i : Nat} (h : i < l.length) (d : α) : l[i]? = some (l.getD i d) := by
  rw [List.getD, List.getElem?_eq_getElem h]; rfl
theorem done_indexAddr (c : Ctx E S asm a w ι ro) {o : Oper} {T : TypeId} {x i : Operand} (ho : o.op = .indexAddr T x i) {r : Bool × AV E} (h : evIndexAddr T (getA S.tmps asm x) (getA S.tmps asm i) = some r) (hok : r.1 = true) :
    OpDone E o a w ι ro S.next (.test r.1 r.2) := by
  obtain ⟨ok, r⟩ := r
  have hx := c.get x
  have hi := c.get i
  generalize hvx : a.eval x = vx at hx
  generalize hvi : a.eval i = vi at hi
  generalize getA S.tmps asm x = X at *
  generalize getA S.tmps asm i = I at *
  unfold evIndexAddr at h
  split at h
  · rename_i e k n he
    have e1 := hi.int_inv
    subst e1
    split at h
    · rename_i t len id
      split at h
      · rename_i ht
        have ht := Nat.eq_of_beq_eq_true ht
        subst ht
        cases h
        simp only [Bool.and_eq_true, decide_eq_true_eq] at hok
        obtain ⟨h0, h1⟩ := hok
        have hu := elemT_inv he
        cases hx with
        | row gh _ _ ad cap hi hge hgs hgv had =>
          have hlt : n.toNat < gh.n := by omega
          obtain ⟨g, rfl⟩ := had (by omega)
          refine .pure c.rolt c.fresh (val := .pointer (some ⟨g, n.toNat * gh.sz + 0, none⟩)) ?_ rfl rfl (.elt gh g id n.toNat 0 cap hi hgv hlt)
          simp [execOp, ho, hvx, hvi, hgv, Instr.indexAt, asIntOf, run_underlying hu, h0, h1, run_size_tid, add_none, hgs]
      · cases h
    · split at h
      · rename_i t l hsl
        split at h
        · rename_i ht
          have ht := Nat.eq_of_beq_eq_true ht
          subst ht
          cases h
          simp only [Bool.and_eq_true, decide_eq_true_eq] at hok
          obtain ⟨h0, h1⟩ := hok
          have hu := elemT_inv he
          obtain ⟨ad, cap, rfl, hd⟩ := (sliceA_rep hx hsl).slice_inv
          rcases hd with rfl | ⟨g, off, rfl, hcap, f, f1, f2⟩
          · simp at h1; omega
          · have hlt : n.toNat < l.length := by omega
            have hg := getD_get hlt (E.dflt t)
            refine .pure c.rolt c.fresh (val := .pointer (some ⟨g, off + n.toNat * E.size t, none⟩)) ?_ rfl rfl
              (.pelt g _ (f n.toNat) _ (fun j c hc => f1 _ _ j c hg hc) (fun j c hc => f2 _ _ j c hg hc))
            simp [execOp, ho, hvx, hvi, Instr.indexAt, asIntOf, run_underlying hu, h0, h1, run_size_tid, add_none]
        · cases h
      · cases h
  · cases h
theorem arrT_inv {T : TypeId} {n : Nat} {e : TypeId} (h : arrT P T = some (n, e)) : P.underlying T = some (.array n e) := by
  unfold arrT at h
  split at h
  · rename_i hu; cases h; exact hu
  · cases h
theorem done_indexArr (c : Ctx E S asm a w ι ro) {o : Oper} {T : TypeId} {x i : Operand} (ho : o.op = .indexAddr T x i) {r : Bool × AV E} (h : evIndexArr T (getA S.tmps asm x) (getA S.tmps asm i) = some r) (hok : r.1 = true) :
    OpDone E o a w ι ro S.next (.test r.1 r.2) := by
  obtain ⟨ok, r⟩ := r
  have hx := c.get x
  have hi := c.get i
  generalize hvx : a.eval x = vx at hx
  generalize hvi : a.eval i = vi at hi
  generalize getA S.tmps asm x = X at *
  generalize getA S.tmps asm i = I at *
  unfold evIndexArr at h
  split at h
  · rename_i len e k n hT
    have e1 := hi.int_inv
    subst e1
    split at h
    · rename_i id off
      split at h
      · rename_i size hs
        split at h
        · rename_i h2
          cases h
          simp only [Bool.and_eq_true, decide_eq_true_eq] at hok
          obtain ⟨h0, h1⟩ := hok
          obtain ⟨ti, d, hinfo, hd, hin⟩ := sizeT_inv hs
          have hu := arrT_inv hT
          have hl : ¬ len ≤ 1 := by have := Nat.le_of_ble_eq_true h2; omega
          cases hx with
          | ptr gh g _ _ hgi hgv =>
            exact .pure c.rolt c.fresh (val := .pointer (some ⟨g, off + n.toNat * size, none⟩)) (by simp [execOp, ho, hvx, hvi, Instr.indexAt, asIntOf, run_underlying hu, Instr.sureAddr, h0, h1, run_sizeOf hinfo, hin, add_none]) rfl rfl (.ptr gh g id _ hgi hgv)
        · cases h
      · cases h
    · cases h
  · cases h
theorem done_indexBsl (c : Ctx E S asm a w ι ro) {o : Oper} {T : TypeId} {x i : Operand} (ho : o.op = .indexAddr T x i) {r : Bool × AV E} (h : evIndexBsl T (getA S.tmps asm x) (getA S.tmps asm i) = some r) (hok : r.1 = true) :
    OpDone E o a w ι ro S.next (.test r.1 r.2) := by
  obtain ⟨ok, r⟩ := r
  have hx := c.get x
  have hi := c.get i
  generalize hvx : a.eval x = vx at hx
  generalize hvi : a.eval i = vi at hi
  generalize getA S.tmps asm x = X at *
  generalize getA S.tmps asm i = I at *
  unfold evIndexBsl at h
  split at h
  · rename_i e k n he
    have e1 := hi.int_inv
    subst e1
    split at h
    · rename_i len id
      split at h
      · rename_i size hs
        cases h
        simp only [Bool.and_eq_true, decide_eq_true_eq] at hok
        obtain ⟨h0, h1⟩ := hok
        obtain ⟨ti, d, hinfo, hd, hin⟩ := sizeT_inv hs
        have hu := elemT_inv he
        cases hx with
        | bsl gh g _ _ cap hgi hgv =>
          exact .pure c.rolt c.fresh (val := .pointer (some ⟨g, 0 + n.toNat * size, none⟩)) (by simp [execOp, ho, hvx, hvi, Instr.indexAt, asIntOf, run_underlying hu, h0, h1, run_sizeOf hinfo, hin, add_none]) rfl rfl (by rw [Nat.zero_add]; exact .ptr gh g id _ hgi hgv)
      · cases h
    · cases h
  · cases h
theorem done_index (c : Ctx E S asm a w ι ro) {o : Oper} {T : TypeId} {x i : Operand} (ho : o.op = .index T x i) {r : Bool × AV E} (h : evIndex T (getA S.tmps asm x) (getA S.tmps asm i) = some r) (hok : r.1 = true) :
    OpDone E o a w ι ro S.next (.test r.1 r.2) := by
  obtain ⟨ok, r⟩ := r
  have hx := c.get x
  have hi := c.get i
  generalize hvx : a.eval x = vx at hx
  generalize hvi : a.eval i = vi at hi
  generalize getA S.tmps asm x = X at *
  generalize getA S.tmps asm i = I at *
  unfold evIndex at h
  split at h
  · rename_i hT
    split at h
    · rename_i s k n
      have e1 := hi.int_inv
      have e2 := hx.str_inv
      subst e1; subst e2
      cases h
      simp only [Bool.and_eq_true, decide_eq_true_eq] at hok
      obtain ⟨h0, h1⟩ := hok
      have hlt : n.toNat < s.length := by omega
      have hg := getD_get hlt 0
      refine .pure c.rolt c.fresh (val := .int .u8 (s.getD n.toNat 0).toNat) ?_ rfl rfl (.d _ _ (.int _ _))
      have hb : (⟨s.toArray⟩ : ByteArray)[n.toNat]? = some (s.getD n.toNat 0) := by
        have hlt' : n.toNat < (ByteArray.mk s.toArray).size := by show n.toNat < s.toArray.size; simpa using hlt
        have e3 : (ByteArray.mk s.toArray)[n.toNat]? = some ((ByteArray.mk s.toArray)[n.toNat]'hlt') := by rw [getElem?_pos]
        rw [e3]
        have e4 : (ByteArray.mk s.toArray)[n.toNat]'hlt' = s[n.toNat] := rfl
        rw [e4]
        rw [List.getElem?_eq_getElem hlt] at hg
        exact hg
      simp only [execOp, ho, hvx, hvi, Instr.index, asIntOf]
      simp only [Sem.run_bind, Sem.run_pure, Result.andThen_ok, run_underlying (isStrT_inv hT), if_pos h0, hb]
    · cases h
  · cases h
theorem eltsA_at {e : TypeId} {t : E.Ty} {sz : Nat} : ∀ {n : Nat} {cs : List (AV E)} {xs : List (E.Den t)}, eltsA e t sz n cs = some xs → xs.length = n ∧ ∀ (k : Nat) y, xs[k]? = some y → ∃ v, takeA e (cs.drop (k * sz)) = some v ∧ foldA t v = some y
  | 0, cs, xs, h => by
    cases h
    exact ⟨rfl, fun k y hy => by simp at hy⟩
  | n + 1, cs, xs, h => by
    unfold eltsA at h
    split at h
    · rename_i v hv
      split at h
      · rename_i x hx
        split at h
        · rename_i ys hys
          cases h
          obtain ⟨h1, h2⟩ := eltsA_at hys
          refine ⟨by simp [h1], fun k y hy => ?_⟩
          cases k with
          | zero =>
            simp at hy
            subst hy
            exact ⟨v, by simpa using hv, hx⟩
          | succ k =>
            obtain ⟨u, hu, hf⟩ := h2 k y (by simpa using hy)
            refine ⟨u, ?_, hf⟩
            rw [List.drop_drop] at hu
            rw [Nat.succ_mul, Nat.add_comm]
            exact hu
        · cases h
      · cases h
    · cases h
theorem done_indexV (c : Ctx E S asm a w ι ro) {o : Oper} {T : TypeId} {x i : Operand} (ho : o.op = .index T x i) {r : Bool × AV E} (h : evIndexV T (getA S.tmps asm x) (getA S.tmps asm i) = some r) (hok : r.1 = true) :
    OpDone E o a w ι ro S.next (.test r.1 r.2) := by
  obtain ⟨ok, r⟩ := r
  have hx := c.get x
  have hi := c.get i
  generalize hvx : a.eval x = vx at hx
  generalize hvi : a.eval i = vi at hi
  generalize getA S.tmps asm x = X at *
  generalize getA S.tmps asm i = I at *
  unfold evIndexV at h
  split at h
  · rename_i len e k n hT
    have e1 := hi.int_inv
    subst e1
    have hu := arrT_inv hT
    split at h
    · rename_i t sz cs ht hs hcs
      obtain ⟨ti, d, hinfo, hd, hin⟩ := sizeT_inv hs
      obtain ⟨k1, k2⟩ := cellsA_rep hx hcs
      have hrel : Rel E w ro ι vx.cells cs := ⟨k1, fun j v x hv hx => (k2 j v x hv hx).2⟩
      have main : ∀ xs : List (E.Den t), (∃ us, vx = .agg us) → eltsA e t sz len cs = some xs → (decide (0 ≤ n) && decide (n < len)) = true →
          OpDone E o a w ι ro S.next (.test (decide (0 ≤ n) && decide (n < len)) (expandA t (xs.getD n.toNat (E.dflt t)))) := by
        rintro xs ⟨us, rfl⟩ he hok
        simp only [Bool.and_eq_true, decide_eq_true_eq] at hok
        obtain ⟨h0, h1⟩ := hok
        obtain ⟨hl, hat⟩ := eltsA_at he
        have hlt : n.toNat < xs.length := by omega
        obtain ⟨v, hv, hf⟩ := hat n.toNat _ (getD_get hlt (E.dflt t))
        obtain ⟨val, hrun, hr⟩ := run_part (P := P) hrel hv
        simp only [Value.cells] at hrun
        exact .pure c.rolt c.fresh (val := val) (by simp [execOp, ho, hvx, hvi, Instr.index, asIntOf, run_underlying hu, h0, h1, run_sizeOf hinfo, hin, hrun]) rfl rfl (expandA_rep (foldA_rep hr hf))
      split at h
      · split at h
        · rename_i xs he
          cases h
          cases hx with
          | st vs t y ha hrow => exact main xs ⟨_, rfl⟩ he hok
        · cases h
      · split at h
        · rename_i xs he
          cases h
          cases hx with
          | agg vs cs' hs hi => exact main xs ⟨_, rfl⟩ he hok
        · cases h
      · cases h
    · cases h
  · cases h
theorem floatEq_isf {x y : Nat} {a b : Int} (hx : F64.IsF x a) (hy : F64.IsF y b) (ha : fltOk a = true) (hb : fltOk b = true) : Op.floatEq .f64 x y = (a == b) := by
  simp only [fltOk, decide_eq_true_eq] at ha hb
  unfold Op.floatEq
  rw [F64.isf_order hx hy ha hb]
  exact cmp_eq a b
theorem eqS_sound {T : TypeId} {x y : AV E} {o b : Bool} (h : eqS T x y = some (o, b)) (ho : o = true) {vx vy : Value} (hx : Rep E w ro ι vx x) (hy : Rep E w ro ι vy y) (d : Nat) : (Op.equalIn (d + 1) T vx vy).run P w = .ok b w := by
  unfold eqS at h
  split at h
  · rename_i hu
    split at h
    · cases h; rw [hx.bool_inv, hy.bool_inv]; simp [Op.equalIn, run_underlying hu]
    · cases h
  · rename_i k hu
    split at h
    · rename_i k1 a k2 b'
      split at h
      · rename_i hk
        have hkk : k1 = k2 := by simpa [sameKind] using hk
        subst hkk
        cases h; rw [hx.int_inv, hy.int_inv]; simp [Op.equalIn, run_underlying hu]
      · cases h
    · cases h
  · rename_i hu
    split at h
    · rename_i a b'
      cases h; rw [hx.str_inv, hy.str_inv, run_equalIn_string w d T _ _ hu]
      simp [ByteArray.toList_eq]
    · cases h
  · rename_i k hu
    split at h
    · rename_i a b'
      cases h
      simp only [Bool.and_eq_true] at ho
      obtain ⟨x', e1, hx'⟩ := hx.flt_inv
      obtain ⟨y', e2, hy'⟩ := hy.flt_inv
      rw [e1, e2]
      simp [Op.equalIn, run_underlying hu, floatEq_isf hx' hy' ho.1 ho.2]
    · cases h
  · rename_i k hu
    split at h
    · rename_i a1 a2 b1 b2
      cases h
      simp only [Bool.and_eq_true] at ho
      obtain ⟨x1, x2, e1, hx1, hx2⟩ := hx.cpx_inv
      obtain ⟨y1, y2, e2, hy1, hy2⟩ := hy.cpx_inv
      rw [e1, e2]
      simp [Op.equalIn, run_underlying hu, floatEq_isf hx1 hy1 ho.1.1 ho.1.2, floatEq_isf hx2 hy2 ho.2.1 ho.2.2]
    · cases h
  · cases h
def RecOk (E : Env P) (w : World) (ro : Nat → Nat → Prop) (ι : Nat → Option Gh) (rec : TypeId → AV E → AV E → Option (Bool × Bool)) (D : Nat) : Prop :=
  ∀ T x y o b, rec T x y = some (o, b) → o = true → ∀ vx vy, Rep E w ro ι vx x → Rep E w ro ι vy y → (Op.equalIn D T vx vy).run P w = .ok b w
theorem eqFs_sound {rec : TypeId → AV E → AV E → Option (Bool × Bool)} {D : Nat} (hrec : RecOk E w ro ι rec D) {vs us : Array Value} {xs ys : List (AV E)} (hv : Rel E w ro ι vs xs) (hu : Rel E w ro ι us ys) :
    ∀ (fs : List Field) (o b : Bool), eqFs rec fs xs ys = some (o, b) → o = true → (Op.eqFields D vs us fs).run P w = .ok b w
  | [], o, b, h, _ => by
    cases h
    simp [Op.eqFields]
  | f :: r, o, b, h, ho => by
    unfold eqFs at h
    split at h
    · rename_i hn
      have ih := eqFs_sound hrec hv hu r o b h ho
      simpa [Op.eqFields, hn] using ih
    · rename_i hn
      split at h
      · rename_i a1 a2 h1 h2
        split at h
        · rename_i o1 b1 o2 b2 h3 h4
          cases h
          simp only [Bool.and_eq_true] at ho
          obtain ⟨v1, r1, p1⟩ := run_part (P := P) hv h1
          obtain ⟨v2, r2, p2⟩ := run_part (P := P) hu h2
          have h5 := hrec f.type a1 a2 o1 b1 h3 ho.1 v1 v2 p1 p2
          have ih := eqFs_sound hrec hv hu r o2 b2 h4 ho.2
          simp only [Op.eqFields]
          rw [if_pos hn]
          simp only [Sem.run_bind, r1, r2, h5, Result.andThen_ok]
          cases b1
          · simp
          · simpa using ih
        · cases h
      · cases h
theorem eqEs_sound {rec : TypeId → AV E → AV E → Option (Bool × Bool)} {D : Nat} (hrec : RecOk E w ro ι rec D) {vs us : Array Value} {xs ys : List (AV E)} (hv : Rel E w ro ι vs xs) (hu : Rel E w ro ι us ys) {e : TypeId} {sz : Nat} :
    ∀ (n j : Nat) (o b : Bool), eqEs rec e sz n (xs.drop (j * sz)) (ys.drop (j * sz)) = some (o, b) → o = true → (Op.eqItems D e sz vs us (List.range' j n)).run P w = .ok b w
  | 0, j, o, b, h, _ => by
    cases h
    simp [Op.eqItems]
  | n + 1, j, o, b, h, ho => by
    unfold eqEs at h
    split at h
    · rename_i a1 a2 h1 h2
      split at h
      · rename_i o1 b1 o2 b2 h3 h4
        cases h
        simp only [Bool.and_eq_true] at ho
        obtain ⟨v1, r1, p1⟩ := run_part (P := P) hv h1
        obtain ⟨v2, r2, p2⟩ := run_part (P := P) hu h2
        have h5 := hrec e a1 a2 o1 b1 h3 ho.1 v1 v2 p1 p2
        rw [List.drop_drop, List.drop_drop, show j * sz + sz = (j + 1) * sz from by rw [Nat.succ_mul]] at h4
        have ih := eqEs_sound hrec hv hu n (j + 1) o2 b2 h4 ho.2
        rw [List.range'_succ]
        simp only [Op.eqItems, Sem.run_bind, r1, r2, h5, Result.andThen_ok]
        cases b1
        · simp
        · simpa using ih
      · cases h
    · cases h
theorem aggC_rel {x : AV E} {v : Value} {xs : List (AV E)} (h : aggC x = some xs) (hv : Rep E w ro ι v x) : ∃ vs, v = .agg vs ∧ Rel E w ro ι vs xs := by
  cases hv with
  | st vs t y ha hrow =>
    obtain ⟨k1, k2⟩ := cellsA_rep (.st vs t y ha hrow) h
    exact ⟨vs, rfl, k1, fun j v x hv hx => (k2 j v x hv hx).2⟩
  | agg vs cs hs hi =>
    obtain ⟨k1, k2⟩ := cellsA_rep (.agg vs cs hs hi) h
    exact ⟨vs, rfl, k1, fun j v x hv hx => (k2 j v x hv hx).2⟩
  | _ => cases h
theorem evEq_sound : ∀ (d k : Nat), RecOk E w ro ι (evEq d) (d + k)
  | 0, _, T, x, y, o, b, h, _, _, _, _, _ => by cases h
  | d + 1, k, T, x, y, o, b, h, ho, vx, vy, hx, hy => by
    have e : d + 1 + k = d + k + 1 := by omega
    rw [e]
    unfold evEq at h
    split at h
    · rename_i fs hu
      split at h
      · rename_i xs ys hp h1 h2
        obtain ⟨vs, rfl, hv⟩ := aggC_rel h1 hx
        obtain ⟨us, rfl, hw⟩ := aggC_rel h2 hy
        have hf : P.fieldsOf T = fs := by simp [Program.fieldsOf, hu]
        rw [run_equalIn_struct w (d + k) T vs us (by rw [hf]; exact hu) hp, hf]
        exact eqFs_sound (evEq_sound d k) hv hw _ _ _ h ho
      · cases h
    · rename_i n e' hu
      split at h
      · rename_i sz xs ys hs h1 h2
        obtain ⟨vs, rfl, hv⟩ := aggC_rel h1 hx
        obtain ⟨us, rfl, hw⟩ := aggC_rel h2 hy
        obtain ⟨i, dd, hi, hd, hn⟩ := sizeT_inv hs
        have hc : P.cellsOf e' = sz := by simp [Program.cellsOf, hi, hn]
        rw [run_equalIn_array w (d + k) vs us hu hi, hc, List.range_eq_range']
        refine eqEs_sound (evEq_sound d k) hv hw n 0 o b ?_ ho
        simpa using h
      · cases h
    · exact eqS_sound h ho hx hy _
theorem done_binEq (c : Ctx E S asm a w ι ro) {o : Oper} {op : BinOp} {T T' : TypeId} {x y : Operand} (ho : o.op = .binOp op T x y T') {r : Bool × AV E} (h : evBinEq op T (getA S.tmps asm x) (getA S.tmps asm y) = some r) (hok : r.1 = true) :
    OpDone E o a w ι ro S.next (.test r.1 r.2) := by
  obtain ⟨ok, r⟩ := r
  have hx := c.get x
  have hy := c.get y
  generalize hvx : a.eval x = vx at hx
  generalize hvy : a.eval y = vy at hy
  generalize getA S.tmps asm x = X at *
  generalize getA S.tmps asm y = Y at *
  unfold evBinEq at h
  split at h
  · rename_i xs ys hm h1 h2
    obtain ⟨vs, rfl, _⟩ := aggC_rel h1 hx
    obtain ⟨us, rfl, _⟩ := aggC_rel h2 hy
    split at h
    · split at h
      · rename_i o' b hb
        cases h
        have hr := evEq_sound (P := P) 8 9992 T X Y _ b hb hok _ _ hx hy
        have hr' : (Op.equal T (.agg vs) (.agg us)).run P w = .ok b w := hr
        refine .pure c.rolt c.fresh (val := .bool b) ?_ rfl rfl (.d _ _ (.bool _))
        simp [execOp, ho, hvx, hvy, eqGuard, run_program, hm, binOp, hr']
      · cases h
    · split at h
      · rename_i o' b hb
        cases h
        have hr := evEq_sound (P := P) 8 9992 T X Y _ b hb hok _ _ hx hy
        have hr' : (Op.equal T (.agg vs) (.agg us)).run P w = .ok b w := hr
        refine .pure c.rolt c.fresh (val := .bool !b) ?_ rfl rfl (.d _ _ (.bool _))
        simp [execOp, ho, hvx, hvy, eqGuard, run_program, hm, binOp, hr']
      · cases h
    · cases h
  · cases h
theorem done_len (c : Ctx E S asm a w ι ro) {o : Oper} {T : TypeId} {x : Operand} {cs : Array TypeId} (ho : o.op = .call { callee := .builtin .len, args := #[x], argTypes := cs }) (hcs : cs.toList = [T]) {r : AV E} (h : evLen T (getA S.tmps asm x) = some r) :
    OpDone E o a w ι ro S.next (.pure r) := by
  have hx := c.get x
  generalize hvx : a.eval x = vx at hx
  generalize getA S.tmps asm x = X at *
  obtain rfl : cs = #[T] := by cases cs; simp at hcs; simp [hcs]
  unfold evLen at h
  split at h
  · rename_i hT
    split at h
    · rename_i s
      have e2 := hx.str_inv
      subst e2
      cases h
      refine c.pure (val := .int .i64 s.length) ?_ (.d _ _ (.int _ _))
      have hsz : (⟨s.toArray⟩ : ByteArray).size = s.length := by show s.toArray.size = _; simp
      simp [execOp, ho, hvx, resolve, invoke, builtin, Builtin.len_, run_underlying (isStrT_inv hT), goInt, hsz]
    · cases h
  · split at h
    · rename_i e he
      split at h
      · rename_i t n id
        cases h
        have hu := elemT_inv he
        cases hx with
        | row gh _ _ ad cap hi hge hgs hgv had =>
          exact c.pure (val := .int .i64 gh.n) (by simp [execOp, ho, hvx, hgv, resolve, invoke, builtin, Builtin.len_, run_underlying hu, goInt]) (.d _ _ (.int _ _))
      · rename_i n id
        cases h
        have hu := elemT_inv he
        cases hx with
        | bsl gh g _ _ cap hi hgv =>
          exact c.pure (val := .int .i64 n) (by simp [execOp, ho, hvx, resolve, invoke, builtin, Builtin.len_, run_underlying hu, goInt]) (.d _ _ (.int _ _))
      · split at h
        · rename_i t l hsl
          cases h
          have hu := elemT_inv he
          obtain ⟨ad, cap, rfl, hd⟩ := (sliceA_rep hx hsl).slice_inv
          exact c.pure (val := .int .i64 l.length) (by simp [execOp, ho, hvx, resolve, invoke, builtin, Builtin.len_, run_underlying hu, goInt]) (.d _ _ (.int _ _))
        · cases h
    · cases h
theorem optA_some (c : Ctx E S asm a w ι ro) (x : Option Operand) {len : Nat} {m : Int} :
    (loA (optA S.tmps asm x) = some m → (x.map a.eval = none ∧ m = 0) ∨ ∃ k, x.map a.eval = some (.int k m)) ∧
    (hiA len (optA S.tmps asm x) = some m → (x.map a.eval = none ∧ m = len) ∨ ∃ k, x.map a.eval = some (.int k m)) := by
  cases x with
  | none => exact ⟨fun h => by cases h; exact .inl ⟨rfl, rfl⟩, fun h => by cases h; exact .inl ⟨rfl, rfl⟩⟩
  | some x =>
    have hx := c.get x
    refine ⟨fun h => ?_, fun h => ?_⟩
    · simp only [optA, loA] at h
      split at h
      · rename_i hq; cases hq
      · rename_i k q hq
        cases h
        cases hq2 : getA S.tmps asm x with
        | d cv =>
          rw [hq2] at hq hx
          cases hq
          exact .inr ⟨k, by simp [hx.int_inv]⟩
        | _ => rw [hq2] at hq; cases hq
      · cases h
    · simp only [optA, hiA] at h
      split at h
      · rename_i hq; cases hq
      · rename_i k q hq
        cases h
        cases hq2 : getA S.tmps asm x with
        | d cv =>
          rw [hq2] at hq hx
          cases hq
          exact .inr ⟨k, by simp [hx.int_inv]⟩
        | _ => rw [hq2] at hq; cases hq
      · cases h
theorem run_bounds (isSlice : Bool) (len cap : Nat) (low high : Option Value) (l h : Int) (hl : (low = none ∧ l = 0) ∨ ∃ k, low = some (.int k l)) (hh : (high = none ∧ h = len) ∨ ∃ k, high = some (.int k h))
    (h0 : 0 ≤ l) (h1 : l ≤ h) (h2 : h ≤ len) (hcap : len ≤ cap) : (Instr.sliceBounds isSlice len cap low high none).run P w = .ok (l.toNat, h.toNat, cap) w := by
  have e1 : (h.toNat : Int) = h := Int.toNat_of_nonneg (by omega)
  rcases hl with ⟨rfl, rfl⟩ | ⟨k1, rfl⟩ <;> rcases hh with ⟨rfl, rfl⟩ | ⟨k2, rfl⟩
  · simp [Instr.sliceBounds]
  · have hc : 0 ≤ h ∧ h ≤ (cap : Int) := ⟨by omega, by omega⟩
    simp [Instr.sliceBounds, Instr.sliceBound, asIntOf, hc.1, hc.2]
  · simp [Instr.sliceBounds, Instr.sliceBound, asIntOf, h0, h1]
  · have hc : 0 ≤ h ∧ h ≤ (cap : Int) := ⟨by omega, by omega⟩
    simp [Instr.sliceBounds, Instr.sliceBound, asIntOf, hc.1, hc.2, h0, e1, h1]
theorem done_slice (c : Ctx E S asm a w ι ro) {o : Oper} {T : TypeId} {x : Operand} {lo hi mx : Option Operand} (ho : o.op = .slice T x lo hi mx) {r : Bool × AV E}
    (h : evSlice T (getA S.tmps asm x) (optA S.tmps asm lo) (optA S.tmps asm hi) (optA S.tmps asm mx) = some r) (hok : r.1 = true) : OpDone E o a w ι ro S.next (.test r.1 r.2) := by
  obtain ⟨ok, r⟩ := r
  have hx := c.get x
  generalize hvx : a.eval x = vx at hx
  generalize getA S.tmps asm x = X at *
  unfold evSlice at h
  cases mx with
  | some m => simp only [optA] at h; cases h
  | none =>
    simp only [optA] at h
    split at h
    · rename_i hT
      split at h
      · rename_i s
        have e2 := hx.str_inv
        subst e2
        split at h
        · rename_i l hh hl' hh'
          cases h
          simp only [Bool.and_eq_true, decide_eq_true_eq] at hok
          obtain ⟨⟨h0, h1⟩, h2⟩ := hok
          have hlo := (optA_some c lo (len := s.length) (m := l)).1 hl'
          have hhi := (optA_some c hi (len := s.length) (m := hh)).2 hh'
          have hsz : (ByteArray.mk s.toArray).size = s.length := by show s.toArray.size = _; simp
          have hrun := run_bounds (P := P) (w := w) false s.length s.length _ _ l hh hlo hhi h0 h1 h2 (Nat.le_refl _)
          refine .pure c.rolt c.fresh (val := .string ⟨((s.drop l.toNat).take (hh.toNat - l.toNat)).toArray⟩) ?_ rfl rfl (.d _ _ (.str _))
          have hext := Lib.extract_eq ⟨s.toArray⟩ l.toNat hh.toNat
          simp only at hext
          simp [execOp, ho, hvx, Instr.sliceAt, Instr.slice, run_underlying (isStrT_inv hT), hsz, hrun, hext]
        · cases h
      · cases h
    · split at h
      · rename_i e he
        split at h
        · rename_i t l hsl
          split at h
          · rename_i ht
            have ht := Nat.eq_of_beq_eq_true ht
            subst ht
            split at h
            · rename_i lv hv hl' hh'
              cases h
              simp only [Bool.and_eq_true, decide_eq_true_eq] at hok
              obtain ⟨⟨h0, h1⟩, h2⟩ := hok
              have hlo := (optA_some c lo (len := l.length) (m := lv)).1 hl'
              have hhi := (optA_some c hi (len := l.length) (m := hv)).2 hh'
              have hu := elemT_inv he
              obtain ⟨ad, cap, rfl, hd⟩ := (sliceA_rep hx hsl).slice_inv
              have hcapl : l.length ≤ cap := by
                rcases hd with rfl | ⟨g, off, rfl, hcap, _⟩
                · simp
                · exact hcap
              have hrun := run_bounds (P := P) (w := w) true l.length cap _ _ lv hv hlo hhi h0 h1 h2 hcapl
              have hlen : ((l.drop lv.toNat).take (hv.toNat - lv.toNat)).length = hv.toNat - lv.toNat := by simp; omega
              refine .pure c.rolt c.fresh (val := .slice (if cap = lv.toNat then ad else ad.map (·.add (lv.toNat * E.size t))) (hv.toNat - lv.toNat) (cap - lv.toNat)) ?_ rfl rfl (.d _ _ ?_)
              · simp [execOp, ho, hvx, Instr.sliceAt, Instr.slice, run_underlying hu, hrun, run_size_tid]
              · by_cases hz : hv.toNat - lv.toNat = 0
                · rw [hz, List.take_zero]
                  exact .nil _ _ _
                · rcases hd with rfl | ⟨g, off, rfl, hcap, f, f1, f2⟩
                  · simp at h2; omega
                  · rw [if_neg (by omega)]
                    have e3 : (some (⟨g, off, none⟩ : Addr)).map (·.add (lv.toNat * E.size t)) = some ⟨g, off + lv.toNat * E.size t, none⟩ := by simp [add_none]
                    rw [e3]
                    have key := fun i x (hi : ((l.drop lv.toNat).take (hv.toNat - lv.toNat))[i]? = some x) => (show l[lv.toNat + i]? = some x by
                      have hlt : i < hv.toNat - lv.toNat := by rw [← hlen]; exact (List.getElem?_eq_some_iff.1 hi).1
                      rw [List.getElem?_take_of_lt hlt, List.getElem?_drop] at hi
                      exact hi)
                    have := DRep.slice (E := E) (w := w) (ro := ro) t ((l.drop lv.toNat).take (hv.toNat - lv.toNat)) g (off + lv.toNat * E.size t) (cap - lv.toNat) (fun i j => f (lv.toNat + i) j) (by rw [hlen]; omega)
                      (fun i x j c hi hc => by
                        have h3 := f1 _ x j c (key i x hi) hc
                        have e4 : off + lv.toNat * E.size t + i * E.size t + j = off + (lv.toNat + i) * E.size t + j := by rw [Nat.add_mul]; omega
                        rw [e4]
                        exact h3)
                      (fun i x j c hi hc => f2 _ x j c (key i x hi) hc)
                    rw [hlen] at this
                    exact this
            · cases h
          · cases h
        · cases h
      · cases h
theorem foldCs_at {t : E.Ty} : ∀ {cs : List (DVal E.Den)} {l : List (E.Den t)}, foldCs t cs = some l → l.length = cs.length ∧ ∀ (i : Nat) x, l[i]? = some x → ∃ c, cs[i]? = some c ∧ CsLe [c] (E.cells t x)
  | [], l, h => by cases h; exact ⟨rfl, fun i x hx => by simp at hx⟩
  | c :: r, l, h => by
    unfold foldCs at h
    split at h
    · rename_i x hx
      split at h
      · rename_i xs hxs
        cases h
        obtain ⟨h1, h2⟩ := foldCs_at hxs
        refine ⟨by simp [h1], fun i y hy => ?_⟩
        cases i with
        | zero => simp at hy; subst hy; exact ⟨c, rfl, E.fold_ok _ _ _ hx⟩
        | succ i => exact h2 i y (by simpa using hy)
      · cases h
    · cases h
theorem done_sliceA (c : Ctx E S asm a w ι ro) {o : Oper} {T : TypeId} {x : Operand} {lo hi mx : Option Operand} (ho : o.op = .slice T x lo hi mx) {r : Bool × AV E}
    (h : evSliceA T (getA S.tmps asm x) (optA S.tmps asm lo) (optA S.tmps asm hi) (optA S.tmps asm mx) = some r) (hok : r.1 = true) : OpDone E o a w ι ro S.next (.test r.1 r.2) := by
  obtain ⟨ok, r⟩ := r
  have hx := c.get x
  generalize hvx : a.eval x = vx at hx
  generalize getA S.tmps asm x = X at *
  cases mx with
  | some m => unfold evSliceA at h; simp only [optA] at h; cases h
  | none =>
    unfold evSliceA at h
    simp only [optA] at h
    split at h
    · rename_i n e cs _ hT
      split at h
      · rename_i t ht
        split at h
        · rename_i hag hlen
          have hlen := Nat.eq_of_beq_eq_true hlen
          split at h
          · rename_i l hl
            split at h
            · rename_i lv hv hl' hh'
              cases h
              simp only [Bool.and_eq_true, decide_eq_true_eq] at hok
              obtain ⟨⟨h0, h1⟩, h2⟩ := hok
              have hlo := (optA_some c lo (len := n) (m := lv)).1 hl'
              have hhi := (optA_some c hi (len := n) (m := hv)).2 hh'
              have hu : P.underlying T = some (.array n e) := arrT_inv hT
              have he := E.code_ok _ _ ht
              subst he
              have h1s := E.one t hag
              have hrun := run_bounds (P := P) (w := w) false n n _ _ lv hv hlo hhi h0 h1 h2 (Nat.le_refl _)
              obtain ⟨q1, q2⟩ := foldCs_at hl
              cases hx with
              | pelt g off f _ f1 f2 =>
                have hl2 : ((l.drop lv.toNat).take (hv.toNat - lv.toNat)).length = hv.toNat - lv.toNat := by simp; omega
                refine .pure c.rolt c.fresh (val := .slice (some (if n = lv.toNat then ⟨g, off, none⟩ else (⟨g, off, none⟩ : Addr).add (lv.toNat * E.size t))) (hv.toNat - lv.toNat) (n - lv.toNat)) ?_ rfl rfl (.d _ _ ?_)
                · simp [execOp, ho, hvx, Instr.sliceAt, Instr.sureAddr, run_underlying hu, hrun, run_size_tid]
                · by_cases hz : hv.toNat - lv.toNat = 0
                  · rw [hz, List.take_zero]
                    exact .nil _ _ _
                  · rw [if_neg (by omega), add_none, h1s, Nat.mul_one]
                    have key := fun i x (hi : ((l.drop lv.toNat).take (hv.toNat - lv.toNat))[i]? = some x) => (show l[lv.toNat + i]? = some x by
                      have hlt : i < hv.toNat - lv.toNat := by rw [← hl2]; exact (List.getElem?_eq_some_iff.1 hi).1
                      rw [List.getElem?_take_of_lt hlt, List.getElem?_drop] at hi
                      exact hi)
                    have cell : ∀ i x j d, ((l.drop lv.toNat).take (hv.toNat - lv.toNat))[i]? = some x → (E.cells t x)[j]? = some d → j = 0 ∧ ∃ c, cs[lv.toNat + i]? = some c ∧ DLe c d := fun i x j d hi hd => by
                      obtain ⟨c, hc, hle⟩ := q2 _ x (key i x hi)
                      have hj : j < (E.cells t x).length := (List.getElem?_eq_some_iff.1 hd).1
                      rw [E.cells_len, h1s] at hj
                      obtain rfl : j = 0 := by omega
                      exact ⟨rfl, c, hc, hle.at_ 0 c d rfl hd⟩
                    have := DRep.slice (E := E) (w := w) (ro := ro) t ((l.drop lv.toNat).take (hv.toNat - lv.toNat)) g (off + lv.toNat) (n - lv.toNat) (fun i _ => f (lv.toNat + i)) (by rw [hl2]; omega)
                      (fun i x j d hi hd => by
                        obtain ⟨rfl, c, hc, _⟩ := cell i x j d hi hd
                        have := f1 _ c hc
                        rw [h1s, Nat.mul_one, Nat.add_zero, Nat.add_assoc]
                        exact this)
                      (fun i x j d hi hd => by
                        obtain ⟨rfl, c, hc, hle⟩ := cell i x j d hi hd
                        exact hle.rep (f2 _ c hc))
                    rw [hl2] at this
                    exact this
            · cases h
          · cases h
        · cases h
      · cases h
    · cases h
theorem done_sliceB (c : Ctx E S asm a w ι ro) {o : Oper} {T : TypeId} {x : Operand} {lo hi mx : Option Operand} (ho : o.op = .slice T x lo hi mx) {r : Bool × AV E}
    (h : evSliceB S.objs T (getA S.tmps asm x) (optA S.tmps asm lo) (optA S.tmps asm hi) (optA S.tmps asm mx) = some r) (hok : r.1 = true) : OpDone E o a w ι ro S.next (.test r.1 r.2) := by
  obtain ⟨ok, r⟩ := r
  have hx := c.get x
  generalize hvx : a.eval x = vx at hx
  generalize getA S.tmps asm x = X at *
  cases mx with
  | some m => unfold evSliceB at h; simp only [optA] at h; cases h
  | none =>
    unfold evSliceB at h
    simp only [optA] at h
    split at h
    · rename_i n e id _ hT
      split at h
      · rename_i t l hob
        split at h
        · rename_i lv hv he hl' hh'
          cases h
          have he := Nat.eq_of_beq_eq_true he
          subst he
          simp only [Bool.and_eq_true, decide_eq_true_eq] at hok
          obtain ⟨hln, ⟨h0, h1⟩, h2⟩ := hok
          have hln := Nat.eq_of_beq_eq_true hln
          have hlo := (optA_some c lo (len := n) (m := lv)).1 hl'
          have hhi := (optA_some c hi (len := n) (m := hv)).2 hh'
          have hu : P.underlying T = some (.array n (E.tid t)) := arrT_inv hT
          obtain ⟨hag, gh, g, vs, e0, hi0, hgv, hblk, hh, hsz, hcell, hro, hge⟩ := c.objs id _ hob
          have hro := hro.2 rfl
          rw [arrC_len] at hsz
          have h1s := E.one t hag
          have hrun := run_bounds (P := P) (w := w) false n n _ _ lv hv hlo hhi h0 h1 h2 (Nat.le_refl _)
          cases hx with
          | ptr gh' g' _ _ hi' hgv' =>
            rw [hi0] at hi'; cases hi'
            rw [hgv] at hgv'; cases hgv'
            have hl2 : ((l.drop lv.toNat).take (hv.toNat - lv.toNat)).length = hv.toNat - lv.toNat := by simp; omega
            refine .pure c.rolt c.fresh (val := .slice (some (if n = lv.toNat then ⟨g, 0, none⟩ else (⟨g, 0, none⟩ : Addr).add (lv.toNat * E.size t))) (hv.toNat - lv.toNat) (n - lv.toNat)) ?_ rfl rfl (.d _ _ ?_)
            · simp [execOp, ho, hvx, Instr.sliceAt, Instr.sureAddr, run_underlying hu, hrun, run_size_tid]
            · by_cases hz : hv.toNat - lv.toNat = 0
              · rw [hz, List.take_zero]
                exact .nil _ _ _
              · rw [if_neg (by omega), add_none, h1s, Nat.mul_one]
                have key := fun i x (hi : ((l.drop lv.toNat).take (hv.toNat - lv.toNat))[i]? = some x) => (show l[lv.toNat + i]? = some x by
                  have hlt : i < hv.toNat - lv.toNat := by rw [← hl2]; exact (List.getElem?_eq_some_iff.1 hi).1
                  rw [List.getElem?_take_of_lt hlt, List.getElem?_drop] at hi
                  exact hi)
                have cell : ∀ i x j d, ((l.drop lv.toNat).take (hv.toNat - lv.toNat))[i]? = some x → (E.cells t x)[j]? = some d → j = 0 ∧ lv.toNat + i < l.length ∧ DRep E w ro (vs.getD (lv.toNat + i) undef) d := fun i x j d hi hd => by
                  have hk := key i x hi
                  obtain ⟨c0, q1, q2⟩ := cell1_of hag x
                  rw [q1] at hd
                  have hj : j = 0 := by
                    have := (List.getElem?_eq_some_iff.1 hd).1
                    simp at this; exact this
                  subst hj
                  simp only [List.getElem?_cons_zero, Option.some.injEq] at hd
                  subst hd
                  have hlt := (List.getElem?_eq_some_iff.1 hk).1
                  have hv := Array.getElem?_eq_getElem (show lv.toNat + i < vs.size by omega)
                  have hcc : (arrC t l)[lv.toNat + i]? = some (cell1 t x) := by simp [arrC, hk]
                  have hr := (hcell _ _ _ hv hcc).2
                  rw [q2] at hr
                  refine ⟨rfl, hlt, ?_⟩
                  have e1 : vs.getD (lv.toNat + i) undef = vs[lv.toNat + i] := by simp [Array.getD, show lv.toNat + i < vs.size by omega]
                  rw [e1]
                  generalize vs[lv.toNat + i] = u at hr
                  cases hr with
                  | d _ _ hd => exact hd
                have := DRep.slice (E := E) (w := w) (ro := ro) t ((l.drop lv.toNat).take (hv.toNat - lv.toNat)) g (0 + lv.toNat) (n - lv.toNat) (fun i _ => vs.getD (lv.toNat + i) undef) (by rw [hl2]; omega)
                  (fun i x j d hi hd => by
                    obtain ⟨rfl, hlt, _⟩ := cell i x j d hi hd
                    rw [h1s, Nat.mul_one, Nat.add_zero, Nat.zero_add]
                    refine ⟨hro _ hlt, ?_⟩
                    simp [World.cell?, hh, Array.getD, show lv.toNat + i < vs.size by omega])
                  (fun i x j d hi hd => (cell i x j d hi hd).2.2)
                rw [hl2] at this
                exact this
        · cases h
      · cases h
    · cases h
theorem done_conv (c : Ctx E S asm a w ι ro) {o : Oper} {s d : TypeId} {x : Operand} (ho : o.op = .convert s d x) {r : Bool × AV E} (h : evConv s d (getA S.tmps asm x) = some r) (hok : r.1 = true) : OpDone E o a w ι ro S.next (.test r.1 r.2) := by
  have hx := c.get x
  generalize hvx : a.eval x = vx at hx
  generalize getA S.tmps asm x = X at *
  unfold evConv at h
  split at h
  · rename_i k0 n
    have e1 := hx.int_inv
    subst e1
    split at h
    · rename_i k1 k h1 h2
      cases h
      exact .pure c.rolt c.fresh (val := .int k (k.wrap n)) (by simp [execOp, ho, hvx, convert, run_underlying (isIntT_inv h1), run_underlying (isIntT_inv h2), Conv.intToInt]) rfl rfl (.d _ _ (.int _ _))
    · rename_i k1 h1 h2
      split at h
      · rename_i hd
        cases h
        exact .pure c.rolt c.fresh (val := .float .f64 (floatOfInt .f64 n)) (by simp only [execOp, ho, hvx, Sem.run_bind, run_convert_int_float w s d k0 .f64 n (by rw [isIntT_inv h1]; rfl) (isF64T_inv hd), Result.andThen_ok, Sem.run_pure]) rfl rfl (.d _ _ (.flt _ _ (F64.isf_ofInt n)))
      · cases h
    · cases h
  · rename_i n
    obtain ⟨b, e1, hb⟩ := hx.flt_inv
    subst e1
    split at h
    · rename_i h2
      split at h
      · rename_i hs
        cases h
        have hn : n.natAbs < 9007199254740992 := of_decide_eq_true hok
        exact .pure c.rolt c.fresh (val := .int .i64 n) (by simp only [execOp, ho, hvx, Sem.run_bind, run_convert_float_int (P := P) w s d .f64 .i64 b n (by rw [isF64T_inv hs]; rfl) (isIntT_inv h2) (F64.isf_toInt hb hn), Result.andThen_ok, Sem.run_pure]) rfl rfl (.d _ _ (.int _ _))
      · cases h
    · cases h
  · split at h
    · rename_i v hv
      cases h
      unfold evConvB at hv
      split at hv
      · rename_i e hT he
        split at hv
        · rename_i t l hu8 hsl
          split at hv
          · rename_i f hf
            cases hv
            have hu : P.underlying e = some (.int .u8) := by
              unfold isU8 at hu8
              split at hu8
              · assumption
              · cases hu8
            obtain ⟨ad, cap, rfl, hd⟩ := (sliceA_rep hx hsl).slice_inv
            refine .pure c.rolt c.fresh (val := .string ⟨(l.map fun y => UInt8.ofNat (f y).toNat).toArray⟩) ?_ rfl rfl (.d _ _ (.str _))
            have hrun : (convert s d (.slice ad l.length cap)).run P w = .ok (.string ⟨(l.map fun y => UInt8.ofNat (f y).toNat).toArray⟩) w := by
              rcases hd with rfl | ⟨g, off, rfl, hcap, fv, f1, f2⟩
              · rw [run_convert_bytes_string w s d e _ _ cap (elemT_inv he) hu (isStrT_inv hT)]
                cases ad with
                | none => simp [Conv.bytesToString]; rfl
                | some ad => rw [run_bytesToString w ad _ cap [] (by simp [loadCells, loadCellsFrom])]; rfl
              · have hlen : (l.map f).length = l.length := by simp
                rw [run_convert_bytes_arg w s e (elemT_inv he) hu g off l.length cap (l.map f) hlen (fun i hi => ?_) d (isStrT_inv hT)]
                · simp [strOfNums, Function.comp_def]
                · have hc := E.byte_ok t f hf l[i]
                  have h1 : E.size t = 1 := by rw [← E.cells_len t l[i], hc]; rfl
                  have hc0 : (E.cells t l[i])[0]? = some (.int .u8 (f l[i])) := by rw [hc]; rfl
                  have g1 := f1 i l[i] 0 _ (List.getElem?_eq_getElem hi) hc0
                  have g2 := f2 i l[i] 0 _ (List.getElem?_eq_getElem hi) hc0
                  have e1 : fv i 0 = .int .u8 (f l[i]) := by generalize fv i 0 = u at g2; cases g2; rfl
                  rw [h1, Nat.mul_one, Nat.add_zero, e1] at g1
                  rw [g1.2]
                  simp [List.getD, hi]
            simp only [execOp, ho, hvx, Sem.run_bind, hrun, Result.andThen_ok, Sem.run_pure]
          · cases hv
        · cases hv
      · cases hv
    · cases h
end
end
end Go.Proofs.YtiahkjjfhnfdiaaGreatDoor.Mir
