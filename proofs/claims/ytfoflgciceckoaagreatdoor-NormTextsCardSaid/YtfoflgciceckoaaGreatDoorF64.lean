/- Whole numbers of at most 53 bits as float64: sums, comparisons, negation and conversions are exact (no program in sight). -/
import Derived.Laws.FloatArith
import Derived.Laws.ComplexArith
namespace Go.Proofs.YtfoflgciceckoaaGreatDoor.F64
open Ieee

/-- A datum that is the whole number n. -/
def Dat (d : Datum) (n : Int) : Prop := ∃ (s : Bool) (m k : Nat), d = .number s m (-(k : Int)) ∧ signed s m 0 = n * 2 ^ k

theorem signed_shift (s : Bool) (m k : Nat) : signed s m k = signed s m 0 * 2 ^ k := by
  unfold signed
  cases s <;> simp [Nat.shiftLeft_eq, Int.neg_mul]

theorem signed_natAbs (T : Int) (b : Bool) : signed (if T = 0 then b else decide (T < 0)) T.natAbs 0 = T := by
  unfold signed
  by_cases h0 : T = 0
  · subst h0; simp
  · rw [if_neg h0]
    by_cases h : T < 0
    · simp [h, Nat.shiftLeft_eq]; omega
    · simp [h, Nat.shiftLeft_eq]; omega

theorem dat_sum {d e : Datum} {a b : Int} (hd : Dat d a) (he : Dat e b) : ∃ f, d.sum e = some f ∧ Dat f (a + b) := by
  obtain ⟨s, m, k, rfl, h1⟩ := hd
  obtain ⟨t, n, j, rfl, h2⟩ := he
  simp only [Datum.sum]
  refine ⟨_, rfl, ?_⟩
  have hb : min (-(k : Int)) (-(j : Int)) = -((max k j : Nat) : Int) := by omega
  rw [hb]
  have e1 : (-(k : Int) - -((max k j : Nat) : Int)).toNat = max k j - k := by omega
  have e2 : (-(j : Int) - -((max k j : Nat) : Int)).toNat = max k j - j := by omega
  rw [e1, e2, signed_shift s m, signed_shift t n, h1, h2]
  have e3 : a * 2 ^ k * 2 ^ (max k j - k) = a * 2 ^ (max k j) := by
    rw [Int.mul_assoc, ← Int.pow_add]; congr 2; omega
  have e4 : b * 2 ^ j * 2 ^ (max k j - j) = b * 2 ^ (max k j) := by
    rw [Int.mul_assoc, ← Int.pow_add]; congr 2; omega
  rw [e3, e4, ← Int.add_mul]
  generalize hT : (a + b) * 2 ^ (max k j) = T
  refine ⟨_, _, max k j, rfl, ?_⟩
  rw [hT]
  exact signed_natAbs T _

theorem opposite_dat {d : Datum} {a : Int} (hd : Dat d a) : Dat d.opposite (-a) := by
  obtain ⟨s, m, k, rfl, h1⟩ := hd
  refine ⟨!s, m, k, rfl, ?_⟩
  rw [Int.neg_mul, ← h1]
  unfold signed
  cases s <;> simp

theorem dat_order {d e : Datum} {a b : Int} (hd : Dat d a) (he : Dat e b) : d.order e = some (compare a b) := by
  obtain ⟨s, m, k, rfl, h1⟩ := hd
  obtain ⟨t, n, j, rfl, h2⟩ := he
  simp only [Datum.order]
  have hb : min (-(k : Int)) (-(j : Int)) = -((max k j : Nat) : Int) := by omega
  rw [hb]
  have e1 : (-(k : Int) - -((max k j : Nat) : Int)).toNat = max k j - k := by omega
  have e2 : (-(j : Int) - -((max k j : Nat) : Int)).toNat = max k j - j := by omega
  rw [e1, e2, signed_shift s m, signed_shift t n, h1, h2]
  have e3 : a * 2 ^ k * 2 ^ (max k j - k) = a * 2 ^ (max k j) := by
    rw [Int.mul_assoc, ← Int.pow_add]; congr 2; omega
  have e4 : b * 2 ^ j * 2 ^ (max k j - j) = b * 2 ^ (max k j) := by
    rw [Int.mul_assoc, ← Int.pow_add]; congr 2; omega
  rw [e3, e4]
  have hp : (0 : Int) < 2 ^ (max k j) := Int.pow_pos (by omega)
  congr 1
  rw [Int.compare_eq_ite_lt, Int.compare_eq_ite_lt]
  simp only [Int.mul_lt_mul_right hp]

theorem log2_shift (c k : Nat) (hc : c ≠ 0) : (c * 2 ^ k).log2 = c.log2 + k := by
  have hp : 0 < 2 ^ k := Nat.two_pow_pos k
  have hne : c * 2 ^ k ≠ 0 := Nat.mul_ne_zero hc (by omega)
  rw [Nat.log2_eq_iff hne]
  have h1 := Nat.log2_self_le hc
  have h2 := @Nat.lt_log2_self c
  constructor
  · rw [Nat.pow_add]; exact Nat.mul_le_mul_right _ h1
  · rw [show c.log2 + k + 1 = (c.log2 + 1) + k from by omega, Nat.pow_add]; exact Nat.mul_lt_mul_of_pos_right h2 hp

theorem cut_exact (way : Toward) (neg : Bool) (c k : Nat) : way.cut neg (c * 2 ^ k) k = c := by
  unfold Toward.cut
  by_cases hc : c = 0
  · subst hc
    have hg : 0 < 1 <<< min k ((0 * 2 ^ k).log2 + 2) := by rw [Nat.one_shiftLeft]; exact Nat.two_pow_pos _
    generalize 1 <<< min k ((0 * 2 ^ k).log2 + 2) = g at hg
    cases way <;> simp <;> omega
  · rw [log2_shift c k hc, show min k (c.log2 + k + 2) = k from by omega, Nat.one_shiftLeft]
    have hp : 0 < 2 ^ k := Nat.two_pow_pos k
    have h1 : c * 2 ^ k / 2 ^ k = c := Nat.mul_div_cancel _ hp
    have h2 : c * 2 ^ k % 2 ^ k = 0 := Nat.mul_mod_left _ _
    simp only [h1, h2]
    cases way <;> simp <;> omega

theorem signed_mag {s : Bool} {m k : Nat} {a : Int} (h : signed s m 0 = a * 2 ^ k) : m = a.natAbs * 2 ^ k := by
  have := congrArg Int.natAbs h
  rw [Int.natAbs_mul, Int.natAbs_pow] at this
  rw [show (2 : Int).natAbs = 2 from rfl] at this
  rw [← this]
  unfold signed
  cases s <;> simp [Nat.shiftLeft_eq]

theorem dat_toInt {d : Datum} {a : Int} (hd : Dat d a) : d.toInt .zero = some a := by
  obtain ⟨s, m, k, rfl, h1⟩ := hd
  have e1 : (-(-(k : Int))).toNat = k := by omega
  have e2 : (-(k : Int)).toNat = 0 := by omega
  have hm := signed_mag h1
  simp only [Datum.toInt, Datum.integral, e1, e2, Nat.shiftLeft_zero]
  rw [hm, cut_exact]
  subst hm
  congr 1
  have hp : (0 : Int) < 2 ^ k := Int.pow_pos (by omega)
  unfold signed at h1 ⊢
  have hc : ((a.natAbs * 2 ^ k : Nat) : Int) = (a.natAbs : Int) * 2 ^ k := by simp
  cases s
  · simp only [Nat.shiftLeft_zero, Bool.false_eq_true, if_false] at h1 ⊢
    rw [hc] at h1
    exact Int.eq_of_mul_eq_mul_right (by omega) h1
  · simp only [Nat.shiftLeft_zero, if_true] at h1 ⊢
    rw [hc, ← Int.neg_mul] at h1
    exact Int.eq_of_mul_eq_mul_right (by omega) h1

theorem log2_lt {c : Nat} (hc : c < 2 ^ 53) : c.log2 ≤ 52 := by
  by_cases h0 : c = 0
  · subst h0; decide
  · have := (Nat.log2_lt h0).2 hc; omega

theorem least : double.leastPlace = -1074 := by decide
theorem binade52 : double.binade = 2 ^ 52 := rfl
theorem inf52 : double.infRung = 2047 * 2 ^ 52 := rfl

/-- The word that is written for a whole number of less than 53 bits, however its digits are placed. -/
theorem nearest_exact (neg : Bool) (c k : Nat) (hc : c < 2 ^ 53) (h0 : c ≠ 0) :
    double.nearest neg (c * 2 ^ k) (-(k : Int)) = double.word neg ((c.log2 + 1022) * 2 ^ 52 + c * 2 ^ (52 - c.log2)) := by
  have hl := log2_lt hc
  have hp : 0 < 2 ^ k := Nat.two_pow_pos k
  unfold Format.nearest
  rw [if_neg (Nat.mul_ne_zero h0 (by omega)), log2_shift c k h0, least, binade52, inf52]
  have hlast : max (-(k : Int) + ((c.log2 + k : Nat) : Int) - (double.fractionBits : Int)) (-1074) = (c.log2 : Int) - 52 := by
    rw [show (double.fractionBits : Int) = 52 from rfl]; omega
  simp only [hlast]
  have hk : Toward.even.cut neg ((c * 2 ^ k) <<< (-(k : Int) - ((c.log2 : Int) - 52)).toNat) ((c.log2 : Int) - 52 - -(k : Int)).toNat = c * 2 ^ (52 - c.log2) := by
    by_cases hge : k ≤ 52 - c.log2
    · have e1 : (-(k : Int) - ((c.log2 : Int) - 52)).toNat = 52 - c.log2 - k := by omega
      have e2 : ((c.log2 : Int) - 52 - -(k : Int)).toNat = 0 := by omega
      rw [e1, e2, Nat.shiftLeft_eq, Nat.mul_assoc, ← Nat.pow_add, show k + (52 - c.log2 - k) = 52 - c.log2 from by omega]
      have := cut_exact .even neg (c * 2 ^ (52 - c.log2)) 0
      simpa using this
    · have e1 : (-(k : Int) - ((c.log2 : Int) - 52)).toNat = 0 := by omega
      have e2 : ((c.log2 : Int) - 52 - -(k : Int)).toNat = k - (52 - c.log2) := by omega
      rw [e1, e2, Nat.shiftLeft_zero, show k = (52 - c.log2) + (k - (52 - c.log2)) from by omega, Nat.pow_add, ← Nat.mul_assoc,
        show (52 - c.log2) + (k - (52 - c.log2)) - (52 - c.log2) = k - (52 - c.log2) from by omega]
      exact cut_exact .even neg _ _
  rw [hk, show ((c.log2 : Int) - 52 - -1074).toNat = c.log2 + 1022 from by omega]
  have h2 : c * 2 ^ (52 - c.log2) < 2 ^ 53 := by
    have := @Nat.lt_log2_self c
    calc c * 2 ^ (52 - c.log2) < 2 ^ (c.log2 + 1) * 2 ^ (52 - c.log2) := Nat.mul_lt_mul_of_pos_right this (Nat.two_pow_pos _)
      _ = 2 ^ 53 := by rw [← Nat.pow_add]; congr 1; omega
  congr 1
  omega

theorem read_word (neg : Bool) (L m : Nat) (hL : L ≤ 52) (h1 : 2 ^ 52 ≤ m) (h2 : m < 2 ^ 53) :
    double.read (double.word neg ((L + 1022) * 2 ^ 52 + m)) = .number neg m (-((52 - L : Nat) : Int)) := by
  have hs : double.signWeight = 2 ^ 63 := rfl
  unfold Format.read Format.word
  rw [binade52, inf52, least, hs]
  have hneg : ((if neg then 2 ^ 63 + ((L + 1022) * 2 ^ 52 + m) else (L + 1022) * 2 ^ 52 + m) / 2 ^ 63 % 2 == 1) = neg := by
    cases neg <;> simp <;> omega
  have hr : (if neg then 2 ^ 63 + ((L + 1022) * 2 ^ 52 + m) else (L + 1022) * 2 ^ 52 + m) % 2 ^ 63 = (L + 1022) * 2 ^ 52 + m := by
    cases neg <;> simp <;> omega
  simp only [hneg, hr]
  rw [if_neg (by omega), if_pos (by omega)]
  congr 1 <;> omega

theorem read_zero (neg : Bool) : double.read (double.word neg 0) = .number neg 0 (-((1074 : Nat) : Int)) := by
  cases neg <;> decide

/-- A word that is the whole number n (a zero may have either sign). -/
def IsF (b : Nat) (n : Int) : Prop := ∃ s : Bool, b = double.nearest s n.natAbs 0 ∧ (n ≠ 0 → s = decide (n < 0))

theorem nearest_zero (s : Bool) (p : Int) : double.nearest s 0 p = double.word s 0 := by unfold Format.nearest; simp

theorem norm_bounds {c : Nat} (hc : c < 2 ^ 53) (h0 : c ≠ 0) : 2 ^ 52 ≤ c * 2 ^ (52 - c.log2) ∧ c * 2 ^ (52 - c.log2) < 2 ^ 53 := by
  have hl := log2_lt hc
  have h1 := Nat.log2_self_le h0
  have h2 := @Nat.lt_log2_self c
  constructor
  · calc 2 ^ 52 = 2 ^ c.log2 * 2 ^ (52 - c.log2) := by rw [← Nat.pow_add]; congr 1; omega
      _ ≤ c * 2 ^ (52 - c.log2) := Nat.mul_le_mul_right _ h1
  · calc c * 2 ^ (52 - c.log2) < 2 ^ (c.log2 + 1) * 2 ^ (52 - c.log2) := Nat.mul_lt_mul_of_pos_right h2 (Nat.two_pow_pos _)
      _ = 2 ^ 53 := by rw [← Nat.pow_add]; congr 1; omega

theorem isf_dat {b : Nat} {n : Int} (h : IsF b n) (hn : n.natAbs < 2 ^ 53) : Dat (double.read b) n := by
  obtain ⟨s, rfl, hs⟩ := h
  by_cases h0 : n = 0
  · subst h0
    rw [show (0 : Int).natAbs = 0 from rfl, nearest_zero, read_zero]
    exact ⟨s, 0, 1074, rfl, by rw [Int.zero_mul]; unfold signed; cases s <;> rfl⟩
  · have h0' : n.natAbs ≠ 0 := by omega
    have e := nearest_exact s n.natAbs 0 hn h0'
    rw [Nat.pow_zero, Nat.mul_one, show -((0 : Nat) : Int) = 0 from rfl] at e
    obtain ⟨h1, h2⟩ := norm_bounds hn h0'
    rw [e, read_word s _ _ (log2_lt hn) h1 h2]
    refine ⟨s, _, _, rfl, ?_⟩
    generalize 52 - n.natAbs.log2 = k
    rw [hs h0]
    unfold signed
    by_cases hlt : n < 0
    · simp [hlt, Nat.shiftLeft_eq]
      rw [← Int.neg_mul]; congr 1; omega
    · simp [hlt, Nat.shiftLeft_eq]
      congr 1; omega

theorem write_isf {d : Datum} {n : Int} (h : Dat d n) (hn : n.natAbs < 2 ^ 53) : IsF (double.write d) n := by
  obtain ⟨s, m, k, rfl, h1⟩ := h
  have hm := signed_mag h1
  subst hm
  refine ⟨s, ?_, fun h0 => ?_⟩
  · show double.nearest s _ _ = _
    by_cases h0 : n = 0
    · subst h0; simp [nearest_zero]
    · have h0' : n.natAbs ≠ 0 := by omega
      rw [nearest_exact s n.natAbs k hn h0']
      have e := nearest_exact s n.natAbs 0 hn h0'
      rw [Nat.pow_zero, Nat.mul_one, show -((0 : Nat) : Int) = 0 from rfl] at e
      exact e.symm
  · have hp : 0 < 2 ^ k := Nat.two_pow_pos k
    have hpi : (0 : Int) < 2 ^ k := Int.pow_pos (by omega)
    unfold signed at h1
    have hc : ((n.natAbs * 2 ^ k : Nat) : Int) = (n.natAbs : Int) * 2 ^ k := by simp
    cases s
    · simp only [Nat.shiftLeft_zero, Bool.false_eq_true, if_false] at h1
      rw [hc] at h1
      have := Int.eq_of_mul_eq_mul_right (by omega) h1
      simp; omega
    · simp only [Nat.shiftLeft_zero, if_true] at h1
      rw [hc, ← Int.neg_mul] at h1
      have := Int.eq_of_mul_eq_mul_right (by omega) h1
      simp; omega

theorem isf_add {x y : Nat} {a b : Int} (hx : IsF x a) (hy : IsF y b) (ha : a.natAbs < 2 ^ 52) (hb : b.natAbs < 2 ^ 52) : ∃ r, floatBits .add .f64 x y = some r ∧ IsF r (a + b) := by
  obtain ⟨f, hf, hd⟩ := dat_sum (isf_dat hx (by omega)) (isf_dat hy (by omega))
  refine ⟨double.write f, ?_, write_isf hd (by omega)⟩
  show double.add x y = _
  unfold Format.add
  rw [hf]; rfl

theorem isf_order {x y : Nat} {a b : Int} (hx : IsF x a) (hy : IsF y b) (ha : a.natAbs < 2 ^ 53) (hb : b.natAbs < 2 ^ 53) : FloatKind.f64.format.order x y = some (compare a b) :=
  dat_order (isf_dat hx ha) (isf_dat hy hb)

theorem isf_ofInt (n : Int) : IsF (floatOfInt .f64 n) n := ⟨decide (n < 0), rfl, fun _ => rfl⟩

theorem isf_toInt {x : Nat} {a : Int} (hx : IsF x a) (ha : a.natAbs < 2 ^ 53) : floatToIntVal .f64 x .i64 = some a := by
  unfold floatToIntVal
  have : (FloatKind.f64.decode x).toInt .zero = some a := dat_toInt (isf_dat hx ha)
  rw [this]
  simp [IntKind.min, IntKind.max, IntKind.signed, IntKind.bits]
  omega

theorem xor_top (r : Nat) (hr : r < 2 ^ 63) : r ^^^ 2 ^ 63 = 2 ^ 63 + r := by
  apply Nat.eq_of_testBit_eq
  intro j
  rw [Nat.testBit_xor, Nat.testBit_two_pow]
  rcases Nat.lt_trichotomy j 63 with h | h | h
  · rw [Nat.testBit_two_pow_add_gt h, show decide (63 = j) = false from decide_eq_false (by omega), Bool.xor_false]
  · subst h
    rw [Nat.testBit_two_pow_add_eq]
    simp
  · have h2 : 2 ^ 64 ≤ 2 ^ j := Nat.pow_le_pow_right (by omega) (by omega)
    rw [Nat.testBit_lt_two_pow (x := r) (by omega), Nat.testBit_lt_two_pow (x := 2 ^ 63 + r) (by omega), show decide (63 = j) = false from decide_eq_false (by omega)]
    rfl

theorem xor_sign (s : Bool) (r : Nat) (hr : r < 2 ^ 63) : double.word s r ^^^ 2 ^ 63 = double.word (!s) r := by
  have hs : double.signWeight = 2 ^ 63 := rfl
  unfold Format.word
  rw [hs]
  have h1 := xor_top r hr
  cases s
  · simpa using h1
  · simp only [if_true, Bool.not_true, Bool.false_eq_true, if_false]
    rw [← h1, Nat.xor_assoc, Nat.xor_self, Nat.xor_zero]

theorem isf_neg {x : Nat} {a : Int} (hx : IsF x a) (ha : a.natAbs < 2 ^ 53) : IsF (Op.negFloat .f64 x) (-a) := by
  obtain ⟨s, rfl, hs⟩ := hx
  refine ⟨!s, ?_, fun h0 => by have := hs (by omega); rw [this]; by_cases h : a < 0 <;> simp [h] <;> omega⟩
  show double.nearest s a.natAbs 0 ^^^ 2 ^ 63 = _
  rw [Int.natAbs_neg]
  by_cases h0 : a = 0
  · subst h0
    rw [show (0 : Int).natAbs = 0 from rfl, nearest_zero, nearest_zero]
    exact xor_sign s 0 (by omega)
  · have h0' : a.natAbs ≠ 0 := by omega
    have e := fun s => nearest_exact s a.natAbs 0 ha h0'
    simp only [Nat.pow_zero, Nat.mul_one, show -((0 : Nat) : Int) = 0 from rfl] at e
    obtain ⟨h1, h2⟩ := norm_bounds ha h0'
    have hl := log2_lt ha
    rw [e, e]
    exact xor_sign s _ (by omega)
#print axioms isf_neg
#print axioms isf_add
#print axioms isf_toInt
/-- The whole number that these bits are, where they are one. -/
def wholeMag (b : Nat) : Nat :=
  bif Nat.beq (b % 2 ^ 63) 0 then 0 else bif Nat.ble 1075 (b % 2 ^ 63 / 2 ^ 52) then (2 ^ 52 + b % 2 ^ 63 % 2 ^ 52) * 2 ^ (b % 2 ^ 63 / 2 ^ 52 - 1075) else (2 ^ 52 + b % 2 ^ 63 % 2 ^ 52) / 2 ^ (1075 - b % 2 ^ 63 / 2 ^ 52)
def whole (b : Nat) : Option Int :=
  bif Nat.beq (double.nearest (Nat.ble (2 ^ 63) b) (wholeMag b) 0) b then some (bif Nat.ble (2 ^ 63) b then -(wholeMag b : Int) else (wholeMag b : Int)) else none

theorem whole_isF {b : Nat} {n : Int} (h : whole b = some n) : IsF b n := by
  unfold whole at h
  generalize wholeMag b = mag at h
  generalize Nat.ble (2 ^ 63) b = neg at h
  cases hb : Nat.beq (double.nearest neg mag 0) b with
  | false => rw [hb] at h; cases h
  | true =>
    rw [hb] at h
    have hb := Nat.eq_of_beq_eq_true hb
    simp only [cond_true, Option.some.injEq] at h
    refine ⟨neg, ?_, fun hn => ?_⟩
    · rw [← hb, ← h]
      cases neg <;> simp
    · subst h
      cases neg with
      | true => simp only [cond_true] at hn ⊢; symm; simp only [decide_eq_true_eq]; omega
      | false => simp only [cond_false] at hn ⊢; symm; simp only [decide_eq_false_iff_not]; omega
end Go.Proofs.YtfoflgciceckoaaGreatDoor.F64
