/- Whole numbers from 0 to 2^53 as float64: they are exact, and are compared, added, taken away and cut to integers exactly; what whole part a raw float64 has between 0 and 2^40. -/
import Derived.Laws.ComplexArith
namespace Go.Proofs.Ytnlfocmmnjgmpaa.Fl
open Go

theorem log2_scaled {n : Nat} (h : n ≠ 0) (M : Nat) : (n * 2 ^ M).log2 = n.log2 + M := by
  have h2 : n * 2 ^ M ≠ 0 := Nat.mul_ne_zero h (Nat.ne_of_gt (Nat.two_pow_pos M))
  rw [Nat.log2_eq_iff h2]
  have a := Nat.log2_self_le h
  have b := Nat.lt_log2_self (n := n)
  constructor
  · rw [Nat.pow_add]; exact Nat.mul_le_mul_right _ a
  · rw [show n.log2 + M + 1 = (n.log2 + 1) + M from by omega, Nat.pow_add]
    exact Nat.mul_lt_mul_of_pos_right b (Nat.two_pow_pos M)

/-- What is a multiple of what is dropped is cut exactly. -/
theorem cut_exact (way : Ieee.Toward) (neg : Bool) (n drop : Nat) : way.cut neg (n * 2 ^ drop) drop = n := by
  unfold Ieee.Toward.cut
  by_cases hn : n = 0
  · subst hn
    have hp : 0 < 1 <<< min drop (Nat.log2 0 + 2) := by rw [Nat.one_shiftLeft]; exact Nat.two_pow_pos _
    simp only [Nat.zero_mul, Nat.zero_div, Nat.zero_mod, Nat.mul_zero, Nat.zero_add]
    cases way <;> simp
  · have hl : min drop ((n * 2 ^ drop).log2 + 2) = drop := by rw [log2_scaled hn]; omega
    have hp : 0 < 2 ^ drop := Nat.two_pow_pos drop
    simp only [hl, Nat.one_shiftLeft, Nat.mul_mod_left, Nat.mul_div_cancel _ hp, Nat.mul_zero]
    have h0 : ¬ (2 ^ drop < 0) := by omega
    have h1 : (2 ^ drop == 0) = false := by simp
    cases way <;> simp

/-- Cut towards zero: the quotient. -/
theorem cut_zero (neg : Bool) (x drop : Nat) : Ieee.Toward.zero.cut neg x drop = x / 2 ^ drop := by
  unfold Ieee.Toward.cut
  simp only [Nat.one_shiftLeft, Bool.toNat_false, Nat.add_zero]
  by_cases h : drop ≤ x.log2 + 2
  · rw [Nat.min_eq_left h]
  · rw [Nat.min_eq_right (by omega)]
    have b := Nat.lt_log2_self (n := x)
    have c : 2 ^ (x.log2 + 1) ≤ 2 ^ (x.log2 + 2) := Nat.pow_le_pow_right (by omega) (by omega)
    have d : 2 ^ (x.log2 + 1) ≤ 2 ^ drop := Nat.pow_le_pow_right (by omega) (by omega)
    rw [Nat.div_eq_of_lt (by omega), Nat.div_eq_of_lt (by omega)]

def canon (n : Nat) : Nat := if n = 0 then 0 else (n.log2 + 1022) * 2 ^ 52 + n * 2 ^ (52 - n.log2)

theorem log2_le {n : Nat} (h : n < 2 ^ 53) : n.log2 ≤ 52 := by
  by_cases hn : n = 0
  · subst hn; decide
  · have := (Nat.log2_lt hn).2 h; omega

theorem canon_lt {n : Nat} (hn : n ≠ 0) (h : n < 2 ^ 53) : 2 ^ 52 ≤ n * 2 ^ (52 - n.log2) ∧ n * 2 ^ (52 - n.log2) < 2 ^ 53 := by
  have hl := log2_le h
  have a := Nat.log2_self_le hn
  have b := Nat.lt_log2_self (n := n)
  have p := Nat.two_pow_pos (52 - n.log2)
  constructor
  · have := Nat.mul_le_mul_right (2 ^ (52 - n.log2)) a
    rwa [← Nat.pow_add, show n.log2 + (52 - n.log2) = 52 from by omega] at this
  · have := Nat.mul_lt_mul_of_pos_right b p
    rwa [← Nat.pow_add, show n.log2 + 1 + (52 - n.log2) = 53 from by omega] at this

theorem kept_scaled {n M : Nat} (h : n < 2 ^ 53) :
    Ieee.Toward.even.cut false ((n * 2 ^ M) <<< (-(M : Int) - ((n.log2 : Int) - 52)).toNat) (((n.log2 : Int) - 52) - -(M : Int)).toNat = n * 2 ^ (52 - n.log2) := by
  have hl := log2_le h
  by_cases hM : M ≤ 52 - n.log2
  · have e1 : (-(M : Int) - ((n.log2 : Int) - 52)).toNat = 52 - n.log2 - M := by omega
    have e2 : (((n.log2 : Int) - 52) - -(M : Int)).toNat = 0 := by omega
    rw [e1, e2, Nat.shiftLeft_eq, Nat.mul_assoc, ← Nat.pow_add, show M + (52 - n.log2 - M) = 52 - n.log2 from by omega]
    have := cut_exact .even false (n * 2 ^ (52 - n.log2)) 0
    simpa using this
  · have e1 : (-(M : Int) - ((n.log2 : Int) - 52)).toNat = 0 := by omega
    have e2 : (((n.log2 : Int) - 52) - -(M : Int)).toNat = M - (52 - n.log2) := by omega
    rw [e1, e2, Nat.shiftLeft_eq, Nat.pow_zero, Nat.mul_one]
    have e3 : n * 2 ^ M = n * 2 ^ (52 - n.log2) * 2 ^ (M - (52 - n.log2)) := by
      rw [Nat.mul_assoc, ← Nat.pow_add, show 52 - n.log2 + (M - (52 - n.log2)) = M from by omega]
    rw [e3, cut_exact]

theorem nearest_scaled {n : Nat} (M : Nat) (h : n < 2 ^ 53) : Ieee.double.nearest false (n * 2 ^ M) (-(M : Int)) = canon n := by
  by_cases hn : n = 0
  · subst hn
    simp [Ieee.Format.nearest, Ieee.Format.word, canon]
  · have hl := log2_le h
    have h2 : n * 2 ^ M ≠ 0 := Nat.mul_ne_zero hn (Nat.ne_of_gt (Nat.two_pow_pos M))
    have hc := canon_lt hn h
    unfold Ieee.Format.nearest canon
    rw [if_neg h2, if_neg hn, log2_scaled hn]
    have hfb : Ieee.double.fractionBits = 52 := rfl
    have hlp : Ieee.double.leastPlace = -1074 := by decide
    have hbi : Ieee.double.binade = 2 ^ 52 := rfl
    have hir : Ieee.double.infRung = 2047 * 2 ^ 52 := by decide
    have hmax : max (-(M : Int) + ((n.log2 + M : Nat) : Int) - (Ieee.double.fractionBits : Int)) Ieee.double.leastPlace = (n.log2 : Int) - 52 := by
      rw [hfb, hlp]; omega
    simp only [hmax]
    rw [kept_scaled h, hlp, hbi, hir]
    have e : (((n.log2 : Int) - 52) - -1074).toNat = n.log2 + 1022 := by omega
    rw [e]
    unfold Ieee.Format.word
    simp only [Bool.false_eq_true, if_false]
    rw [Nat.min_eq_left]
    omega

/-- b stands for the whole number n, without a sign. -/
def Rep (b n : Nat) : Prop := ∃ k : Nat, Ieee.double.read b = .number false (n * 2 ^ k) (-(k : Int))

theorem rep_of {b n k m : Nat} (h : Ieee.double.read b = .number false m (-(k : Int))) (hm : m = n * 2 ^ k) : Rep b n := ⟨k, hm ▸ h⟩

theorem read_zero : Ieee.double.read 0 = .number false 0 (-1074) := by decide

theorem rep_nought {b k : Nat} (h : Ieee.double.read b = .number false 0 (-(k : Int))) : Rep b 0 := rep_of h (Nat.zero_mul _).symm

/-- The bits of 0.0. -/
theorem rep_zero : Rep 0 0 := rep_nought (k := 1074) read_zero

theorem rep_canon {n : Nat} (h : n < 2 ^ 53) : Rep (canon n) n := by
  by_cases hn : n = 0
  · subst hn; exact rep_zero
  · have hl := log2_le h
    have hc := canon_lt hn h
    refine ⟨52 - n.log2, ?_⟩
    generalize hK : n * 2 ^ (52 - n.log2) = K at *
    have hcan : canon n = (n.log2 + 1022) * 2 ^ 52 + K := by unfold canon; rw [if_neg hn, hK]
    have hsw : Ieee.double.signWeight = 2 ^ 63 := by decide
    have hlp : Ieee.double.leastPlace = -1074 := by decide
    have hbi : Ieee.double.binade = 2 ^ 52 := rfl
    have hir : Ieee.double.infRung = 2047 * 2 ^ 52 := by decide
    unfold Ieee.Format.read
    rw [hsw, hlp, hbi, hir, hcan]
    have h1 : ((n.log2 + 1022) * 2 ^ 52 + K) / 2 ^ 63 % 2 = 0 := by omega
    have h2 : ((n.log2 + 1022) * 2 ^ 52 + K) % 2 ^ 63 = (n.log2 + 1022) * 2 ^ 52 + K := by omega
    have h3 : ((n.log2 + 1022) * 2 ^ 52 + K) % 2 ^ 52 = K - 2 ^ 52 := by omega
    have h4 : ((n.log2 + 1022) * 2 ^ 52 + K) / 2 ^ 52 = n.log2 + 1023 := by omega
    simp only [h1, h2, h3, h4]
    rw [if_neg (by omega), if_pos (by omega)]
    have e1 : 2 ^ 52 + (K - 2 ^ 52) = K := by omega
    have e2 : (-1074 : Int) + ((n.log2 + 1023 - 1 : Nat) : Int) = -((52 - n.log2 : Nat) : Int) := by omega
    rw [e1, e2]
    rfl

/-- The bits of a whole number. -/
theorem nearest_eq {n : Nat} (h : n < 2 ^ 53) : FloatKind.f64.nearest (n : Int) = canon n := by
  have h0 : decide ((n : Int) < 0) = false := by simp
  have h1 : ((n : Int)).natAbs = n := Int.natAbs_natCast n
  unfold FloatKind.nearest FloatKind.encode
  show Ieee.double.write _ = _
  unfold Ieee.Format.write
  simp only [h0, h1]
  have := nearest_scaled (n := n) 0 h
  simpa using this

theorem nearest_int {n : Int} (h0 : 0 ≤ n) (h : n < 2 ^ 53) : FloatKind.f64.nearest n = canon n.toNat := by
  have := nearest_eq (n := n.toNat) (by omega)
  rwa [Int.toNat_of_nonneg h0] at this

theorem compare_scaled (a b : Int) {p : Int} (hp : 0 < p) : compare (a * p) (b * p) = compare a b := by
  rcases Int.lt_trichotomy a b with h | h | h
  · rw [Int.compare_eq_lt.2 h, Int.compare_eq_lt.2 (Int.mul_lt_mul_of_pos_right h hp)]
  · subst h; rw [Int.compare_eq_eq.2 rfl, Int.compare_eq_eq.2 rfl]
  · rw [Int.compare_eq_gt.2 h, Int.compare_eq_gt.2 (Int.mul_lt_mul_of_pos_right h hp)]

theorem signed_false (m k : Nat) : Ieee.signed false m k = ((m * 2 ^ k : Nat) : Int) := by
  simp [Ieee.signed, Nat.shiftLeft_eq]

theorem signed_true (m k : Nat) : Ieee.signed true m k = -((m * 2 ^ k : Nat) : Int) := by
  simp [Ieee.signed, Nat.shiftLeft_eq]

theorem scaled_to {n k K : Nat} (h : k ≤ K) : n * 2 ^ k * 2 ^ (-(k : Int) - -(K : Int)).toNat = n * 2 ^ K := by
  rw [show (-(k : Int) - -(K : Int)).toNat = K - k from by omega, Nat.mul_assoc, ← Nat.pow_add, show k + (K - k) = K from by omega]

theorem min_neg (k j : Nat) : min (-(k : Int)) (-(j : Int)) = -((max k j : Nat) : Int) := by omega

/-- Whole numbers are compared as whole numbers. -/
theorem order_rep {a b m n : Nat} (ha : Rep a m) (hb : Rep b n) : Ieee.double.order a b = some (compare (m : Int) (n : Int)) := by
  obtain ⟨k, hk⟩ := ha
  obtain ⟨j, hj⟩ := hb
  unfold Ieee.Format.order
  rw [hk, hj]
  unfold Ieee.Datum.order
  simp only [min_neg, signed_false]
  rw [scaled_to (Nat.le_max_left k j), scaled_to (Nat.le_max_right k j)]
  have := compare_scaled (m : Int) (n : Int) (p := ((2 ^ max k j : Nat) : Int)) (by exact_mod_cast Nat.two_pow_pos _)
  rw [Int.natCast_mul, Int.natCast_mul, this]

theorem toInt_rep {a m : Nat} (ha : Rep a m) : (FloatKind.f64.decode a).toInt .zero = some (m : Int) := by
  obtain ⟨k, hk⟩ := ha
  show (Ieee.double.read a).toInt .zero = _
  rw [hk]
  unfold Ieee.Datum.toInt Ieee.Datum.integral
  simp only [cut_zero]
  rw [show (-(k : Int)).toNat = 0 from by omega, show (- -(k : Int)).toNat = k from by omega, Nat.shiftLeft_eq, Nat.pow_zero, Nat.mul_one, Nat.mul_div_cancel _ (Nat.two_pow_pos k), signed_false]
  simp

theorem add_rep {a b m n : Nat} (ha : Rep a m) (hb : Rep b n) (h : m + n < 2 ^ 53) : Ieee.double.add a b = some (canon (m + n)) := by
  obtain ⟨k, hk⟩ := ha
  obtain ⟨j, hj⟩ := hb
  unfold Ieee.Format.add
  rw [hk, hj]
  unfold Ieee.Datum.sum
  simp only [min_neg, signed_false]
  rw [scaled_to (Nat.le_max_left k j), scaled_to (Nat.le_max_right k j)]
  have e : ((m * 2 ^ max k j : Nat) : Int) + ((n * 2 ^ max k j : Nat) : Int) = (((m + n) * 2 ^ max k j : Nat) : Int) := by
    rw [Nat.add_mul]; omega
  rw [e]
  have e2 : (if (((m + n) * 2 ^ max k j : Nat) : Int) = 0 then false && false else decide ((((m + n) * 2 ^ max k j : Nat) : Int) < 0)) = false := by
    split
    · rfl
    · exact decide_eq_false (Int.not_lt.2 (Int.natCast_nonneg _))
  rw [e2, Int.natAbs_natCast]
  simp only [Option.map_some, Ieee.Format.write]
  rw [nearest_scaled _ h]

theorem sub_rep {a b m n : Nat} (ha : Rep a m) (hb : Rep b n) (h : n ≤ m) (h53 : m < 2 ^ 53) : Ieee.double.sub a b = some (canon (m - n)) := by
  obtain ⟨k, hk⟩ := ha
  obtain ⟨j, hj⟩ := hb
  unfold Ieee.Format.sub
  rw [hk, hj]
  unfold Ieee.Datum.opposite Ieee.Datum.sum
  simp only [min_neg, signed_false, Bool.not_false, signed_true]
  rw [scaled_to (Nat.le_max_left k j), scaled_to (Nat.le_max_right k j)]
  have e : ((m * 2 ^ max k j : Nat) : Int) + -((n * 2 ^ max k j : Nat) : Int) = (((m - n) * 2 ^ max k j : Nat) : Int) := by
    rw [Nat.sub_mul]
    have := Nat.mul_le_mul_right (2 ^ max k j) h
    omega
  rw [e]
  have e2 : (if (((m - n) * 2 ^ max k j : Nat) : Int) = 0 then false && true else decide ((((m - n) * 2 ^ max k j : Nat) : Int) < 0)) = false := by
    split
    · rfl
    · exact decide_eq_false (Int.not_lt.2 (Int.natCast_nonneg _))
  rw [e2, Int.natAbs_natCast]
  simp only [Option.map_some, Ieee.Format.write]
  rw [nearest_scaled _ (by omega)]

/-- The whole part of what a float64 stands for, from 0 to 2^40; of what is no number 0. -/
def wholeD : Ieee.Datum → Int
  | .nan _ _ => 0
  | .infinity s => if s then 0 else 1099511627776
  | .number s m e => if s then 0 else min (((m * 2 ^ e.toNat) / 2 ^ (-e).toNat : Nat) : Int) 1099511627776

def whole (x : Nat) : Int := wholeD (Ieee.double.read x)

theorem wholeD_bd (d : Ieee.Datum) : 0 ≤ wholeD d ∧ wholeD d ≤ 1099511627776 := by
  unfold wholeD
  split
  · omega
  · split <;> omega
  · split
    · omega
    · have := Int.natCast_nonneg (‹Nat› * 2 ^ ‹Int›.toNat / 2 ^ (-‹Int›).toNat)
      omega

theorem whole_bd (x : Nat) : 0 ≤ whole x ∧ whole x ≤ 1099511627776 := wholeD_bd _

theorem whole_rep {a m : Nat} (ha : Rep a m) : whole a = min (m : Int) 1099511627776 := by
  obtain ⟨k, hk⟩ := ha
  unfold whole
  rw [hk]
  unfold wholeD
  simp only [Bool.false_eq_true, if_false]
  rw [show (-(k : Int)).toNat = 0 from by omega, show (- -(k : Int)).toNat = k from by omega, Nat.pow_zero, Nat.mul_one, Nat.mul_div_cancel _ (Nat.two_pow_pos k)]



def topBits : Nat := 4787326403894837248

theorem read_top : Ieee.double.read topBits = .number false 4503599627370496 (-12) := by decide +kernel
theorem rep_top : Rep topBits 1099511627776 := ⟨12, by rw [read_top]; decide +kernel⟩

theorem signed_sign (s : Bool) (m k : Nat) : (m = 0 → Ieee.signed s m k = 0) ∧ (m ≠ 0 → s = true → Ieee.signed s m k < 0) ∧ (m ≠ 0 → s = false → 0 < Ieee.signed s m k) := by
  have p := Nat.two_pow_pos k
  refine ⟨fun h => ?_, fun h hs => ?_, fun h hs => ?_⟩
  · subst h; cases s <;> simp [Ieee.signed]
  · subst hs; rw [signed_true]
    have := Nat.mul_pos (Nat.pos_of_ne_zero h) p
    omega
  · subst hs; rw [signed_false]
    have := Nat.mul_pos (Nat.pos_of_ne_zero h) p
    omega

theorem order_zero_number {x : Nat} {s : Bool} {m : Nat} {e : Int} (h : Ieee.double.read x = .number s m e) :
    Ieee.double.order x 0 = some (if m = 0 then .eq else if s then .lt else .gt) := by
  unfold Ieee.Format.order
  rw [h, read_zero]
  unfold Ieee.Datum.order
  simp only [signed_false, Nat.zero_mul]
  rw [show ((0 : Nat) : Int) = 0 from rfl]
  obtain ⟨a, b, c⟩ := signed_sign s m (e - min e (-1074)).toNat
  by_cases hm : m = 0
  · rw [if_pos hm, a hm]; rfl
  · rw [if_neg hm]
    cases s with
    | true => rw [if_pos rfl, Int.compare_eq_lt.2 (b hm rfl)]
    | false => rw [if_neg (by decide), Int.compare_eq_gt.2 (c hm rfl)]

theorem pow_split (a b : Nat) (h : b ≤ a) : 2 ^ a = 2 ^ b * 2 ^ (a - b) := by rw [← Nat.pow_add]; congr 1; omega

theorem cmp_mul (a b p : Nat) (hp : 0 < p) : compare ((a * p : Nat) : Int) ((b * p : Nat) : Int) = compare (a : Int) (b : Int) := by
  have := compare_scaled (a : Int) (b : Int) (p := (p : Int)) (by omega)
  rwa [← Int.natCast_mul, ← Int.natCast_mul] at this

theorem order_top_number {x : Nat} {s : Bool} {m : Nat} {e : Int} (h : Ieee.double.read x = .number s m e) :
    Ieee.double.order x topBits = some (if s then .lt else compare ((m * 2 ^ e.toNat : Nat) : Int) ((1099511627776 * 2 ^ (-e).toNat : Nat) : Int)) := by
  unfold Ieee.Format.order
  rw [h, read_top]
  unfold Ieee.Datum.order
  cases s with
  | true =>
    have p := Nat.two_pow_pos (-12 - min e (-12)).toNat
    simp only [signed_false, if_true, signed_true]
    rw [Int.compare_eq_lt.2]
    have := Int.natCast_nonneg (m * 2 ^ (e - min e (-12)).toNat)
    have q : 0 < 4503599627370496 * 2 ^ (-12 - min e (-12)).toNat := Nat.mul_pos (by decide) p
    omega
  | false =>
    simp only [signed_false, Bool.false_eq_true, if_false]
    congr 1
    by_cases h1 : 0 ≤ e
    · have e1 : (e - min e (-12)).toNat = e.toNat + 12 := by omega
      have e2 : (-12 - min e (-12)).toNat = 0 := by omega
      have e3 : (-e).toNat = 0 := by omega
      rw [e1, e2, e3, Nat.pow_add, ← Nat.mul_assoc]
      rw [show 4503599627370496 * 2 ^ 0 = 1099511627776 * 2 ^ 0 * 2 ^ 12 from by decide]
      exact cmp_mul _ _ _ (by decide)
    · by_cases h2 : -12 ≤ e
      · obtain ⟨k, rfl⟩ : ∃ k : Nat, e = -(k : Int) := ⟨(-e).toNat, by omega⟩
        have hk : k ≤ 12 := by omega
        have e1 : (-(k : Int) - min (-(k : Int)) (-12)).toNat = 12 - k := by omega
        have e2 : (-12 - min (-(k : Int)) (-12)).toNat = 0 := by omega
        have e3 : (- -(k : Int)).toNat = k := by omega
        have e4 : (-(k : Int)).toNat = 0 := by omega
        rw [e1, e2, e3, e4]
        have e5 : 4503599627370496 * 2 ^ 0 = 1099511627776 * 2 ^ k * 2 ^ (12 - k) := by
          rw [Nat.mul_assoc, ← Nat.pow_add, show k + (12 - k) = 12 from by omega]
        rw [e5, show m * 2 ^ (12 - k) = m * 2 ^ 0 * 2 ^ (12 - k) from by rw [Nat.pow_zero, Nat.mul_one]]
        exact cmp_mul _ _ _ (Nat.two_pow_pos _)
      · obtain ⟨k, rfl⟩ : ∃ k : Nat, e = -(k : Int) := ⟨(-e).toNat, by omega⟩
        have hk : 12 < k := by omega
        have e1 : (-(k : Int) - min (-(k : Int)) (-12)).toNat = 0 := by omega
        have e2 : (-12 - min (-(k : Int)) (-12)).toNat = k - 12 := by omega
        have e3 : (- -(k : Int)).toNat = k := by omega
        have e4 : (-(k : Int)).toNat = 0 := by omega
        rw [e1, e2, e3, e4, show 4503599627370496 * 2 ^ (k - 12) = 1099511627776 * 2 ^ k from by
          rw [pow_split k 12 (by omega), ← Nat.mul_assoc]]

theorem toInt_number {x : Nat} {s : Bool} {m : Nat} {e : Int} (h : Ieee.double.read x = .number s m e) :
    (FloatKind.f64.decode x).toInt .zero = some (if s then -(((m * 2 ^ e.toNat) / 2 ^ (-e).toNat : Nat) : Int) else (((m * 2 ^ e.toNat) / 2 ^ (-e).toNat : Nat) : Int)) := by
  show (Ieee.double.read x).toInt .zero = _
  rw [h]
  unfold Ieee.Datum.toInt Ieee.Datum.integral
  simp only [cut_zero, Nat.shiftLeft_eq]
  cases s with
  | true => rw [signed_true, Nat.pow_zero, Nat.mul_one, if_pos rfl]
  | false => rw [signed_false, Nat.pow_zero, Nat.mul_one, if_neg (by decide)]

theorem order_nan {x y : Nat} {s : Bool} {f : Nat} (h : Ieee.double.read x = .nan s f) : Ieee.double.order x y = none := by
  unfold Ieee.Format.order; rw [h]; rfl

theorem order_inf {x y : Nat} {s t : Bool} {m : Nat} {e : Int} (h : Ieee.double.read x = .infinity s) (hy : Ieee.double.read y = .number t m e) : Ieee.double.order x y = some (if s then .lt else .gt) := by
  unfold Ieee.Format.order; rw [h, hy]; rfl

theorem toIntVal_of {x : Nat} {n : Int} (h : (FloatKind.f64.decode x).toInt .zero = some n) (h0 : -9223372036854775808 ≤ n) (h1 : n ≤ 9223372036854775807) : floatToIntVal .f64 x .i64 = some n := by
  unfold floatToIntVal
  rw [h]
  have a : IntKind.i64.min = -9223372036854775808 := by decide
  have b : IntKind.i64.max = 9223372036854775807 := by decide
  simp only [a, b]
  rw [if_pos ⟨h0, h1⟩]

theorem whole_no {x : Nat} (h : (Ieee.double.order x 0 == some .gt) = false) : whole x = 0 := by
  unfold whole
  cases hr : Ieee.double.read x with
  | nan s f => rfl
  | infinity s =>
    rw [order_inf hr read_zero] at h
    cases s with
    | true => rfl
    | false => simp at h
  | number s m e =>
    rw [order_zero_number hr] at h
    cases s with
    | true => rfl
    | false =>
      by_cases hm : m = 0
      · subst hm; simp [wholeD]; rfl
      · rw [if_neg hm] at h; simp at h

theorem whole_top {x : Nat} (h : (Ieee.double.order x topBits == some .gt) = true) : whole x = 1099511627776 := by
  unfold whole
  cases hr : Ieee.double.read x with
  | nan s f => rw [order_nan hr] at h; simp at h
  | infinity s =>
    rw [order_inf hr read_top] at h
    cases s with
    | true => simp at h
    | false => rfl
  | number s m e =>
    rw [order_top_number hr] at h
    cases s with
    | true => simp at h
    | false =>
      simp only [Bool.false_eq_true, if_false, beq_iff_eq, Option.some.injEq, Int.compare_eq_gt] at h
      have p := Nat.two_pow_pos (-e).toNat
      have q : 1099511627776 ≤ (m * 2 ^ e.toNat) / 2 ^ (-e).toNat := (Nat.le_div_iff_mul_le p).2 (by omega)
      unfold wholeD
      simp only [Bool.false_eq_true, if_false]
      omega

theorem whole_int {x : Nat} (h : (Ieee.double.order x 0 == some .gt) = true) (h1 : (Ieee.double.order x topBits == some .gt) = false) : floatToIntVal .f64 x .i64 = some (whole x) := by
  unfold whole
  cases hr : Ieee.double.read x with
  | nan s f => rw [order_nan hr] at h; simp at h
  | infinity s =>
    rw [order_inf hr read_zero] at h
    rw [order_inf hr read_top] at h1
    cases s with
    | true => simp at h
    | false => simp at h1
  | number s m e =>
    rw [order_zero_number hr] at h
    rw [order_top_number hr] at h1
    have hti := toInt_number hr
    by_cases hm : m = 0
    · rw [if_pos hm] at h; simp at h
    · rw [if_neg hm] at h
      cases s with
      | true => simp at h
      | false =>
        simp only [Bool.false_eq_true, if_false] at h1 hti
        have h2 : ¬ (compare ((m * 2 ^ e.toNat : Nat) : Int) ((1099511627776 * 2 ^ (-e).toNat : Nat) : Int) = .gt) := by
          intro hc; rw [hc] at h1; simp at h1
        rw [Int.compare_eq_gt] at h2
        have p := Nat.two_pow_pos (-e).toNat
        have q : (m * 2 ^ e.toNat) / 2 ^ (-e).toNat ≤ 1099511627776 := Nat.div_le_of_le_mul (by rw [Nat.mul_comm (2 ^ (-e).toNat)]; omega)
        have hw : wholeD (.number false m e) = (((m * 2 ^ e.toNat) / 2 ^ (-e).toNat : Nat) : Int) := by
          unfold wholeD
          simp only [Bool.false_eq_true, if_false]
          omega
        rw [hw]
        generalize (m * 2 ^ e.toNat) / 2 ^ (-e).toNat = Q at hti q ⊢
        exact toIntVal_of hti (by omega) (by omega)

/-- Where it is 2^40 its whole part is 2^40. -/
theorem whole_top_eq {x : Nat} (h : (Ieee.double.order x topBits == some .eq) = true) : whole x = 1099511627776 := by
  unfold whole
  cases hr : Ieee.double.read x with
  | nan s f => rw [order_nan hr] at h; simp at h
  | infinity s => rw [order_inf hr read_top] at h; cases s <;> simp at h
  | number s m e =>
    rw [order_top_number hr] at h
    cases s with
    | true => simp at h
    | false =>
      simp only [Bool.false_eq_true, if_false, beq_iff_eq, Option.some.injEq, Int.compare_eq_eq] at h
      have p := Nat.two_pow_pos (-e).toNat
      have q : 1099511627776 ≤ (m * 2 ^ e.toNat) / 2 ^ (-e).toNat := (Nat.le_div_iff_mul_le p).2 (by omega)
      unfold wholeD
      simp only [Bool.false_eq_true, if_false]
      omega

/-- Where it is nought it is cut to nought. -/
theorem whole_zero_eq {x : Nat} (h : (Ieee.double.order x 0 == some .eq) = true) : floatToIntVal .f64 x .i64 = some (whole x) := by
  have hw : whole x = 0 := by
    apply whole_no
    cases ho : Ieee.double.order x 0 with
    | none => rfl
    | some o => rw [ho] at h; cases o <;> simp_all
  rw [hw]
  cases hr : Ieee.double.read x with
  | nan s f => rw [order_nan hr] at h; simp at h
  | infinity s => rw [order_inf hr read_zero] at h; cases s <;> simp at h
  | number s m e =>
    rw [order_zero_number hr] at h
    have hti := toInt_number hr
    by_cases hm : m = 0
    · subst hm
      have : (FloatKind.f64.decode x).toInt .zero = some 0 := by rw [hti]; cases s <;> simp
      exact toIntVal_of this (by omega) (by omega)
    · rw [if_neg hm] at h; cases s <;> simp at h

/-- The bits of a whole number. -/
def fl (n : Int) : Nat := floatOfInt .f64 n

theorem fl_canon {n : Int} (h0 : 0 ≤ n) (h : n < 9007199254740992) : fl n = canon n.toNat := nearest_int h0 (by omega)

theorem rep_fl {n : Int} (h0 : 0 ≤ n) (h : n < 9007199254740992) : Rep (fl n) n.toNat := by
  rw [fl_canon h0 h]; exact rep_canon (by omega)

theorem whole_fl {n : Int} (h0 : 0 ≤ n) (h : n ≤ 1099511627776) : whole (fl n) = n := by
  rw [whole_rep (rep_fl h0 (by omega))]; omega

theorem order_fl {m n : Int} (h0 : 0 ≤ m) (h : m < 9007199254740992) (h0' : 0 ≤ n) (h' : n < 9007199254740992) : Ieee.double.order (fl m) (fl n) = some (compare m n) := by
  rw [order_rep (rep_fl h0 h) (rep_fl h0' h')]
  rw [Int.toNat_of_nonneg h0, Int.toNat_of_nonneg h0']

theorem eq_fl {m n : Int} (h0 : 0 ≤ m) (h : m < 9007199254740992) (h0' : 0 ≤ n) (h' : n < 9007199254740992) : (FloatKind.f64.format.order (fl m) (fl n) == some .eq) = decide (m = n) := by
  show (Ieee.double.order (fl m) (fl n) == some .eq) = _
  rw [order_fl h0 h h0' h']
  by_cases e : m = n
  · subst e; simp
  · rw [decide_eq_false e]
    rcases Int.lt_or_gt_of_ne e with l | l
    · rw [Int.compare_eq_lt.2 l]; rfl
    · rw [Int.compare_eq_gt.2 l]; rfl

theorem add_fl {m n : Int} (h0 : 0 ≤ m) (h0' : 0 ≤ n) (h : m + n < 9007199254740992) : Ieee.double.add (fl m) (fl n) = some (fl (m + n)) := by
  rw [add_rep (rep_fl h0 (by omega)) (rep_fl h0' (by omega)) (by omega), fl_canon (by omega) h]
  congr 2; omega

theorem sub_fl {m n : Int} (h0 : 0 ≤ n) (h : n ≤ m) (h' : m < 9007199254740992) : Ieee.double.sub (fl m) (fl n) = some (fl (m - n)) := by
  rw [sub_rep (rep_fl (by omega) (by omega)) (rep_fl h0 (by omega)) (by omega) (by omega), fl_canon (by omega) (by omega)]
  congr 2; omega

theorem fl_inj {m n : Int} (h0 : 0 ≤ m) (h : m ≤ 1099511627776) (h0' : 0 ≤ n) (h' : n ≤ 1099511627776) (e : fl m = fl n) : m = n := by
  rw [← whole_fl h0 h, ← whole_fl h0' h', e]

theorem fl_zero : fl 0 = 0 := by decide +kernel
theorem fl_one : fl 1 = 4607182418800017408 := by decide +kernel

/-- One more, one less, as '+' and '-' on complex numbers give them. -/
theorem cadd_busy {a b : Int} (ha : 0 ≤ a) (hb : 0 ≤ b) (h : a < 1099511627777) (h' : b < 1099511627777) : cSumBits .add .f64 (fl a) (fl b) 4607182418800017408 0 = some (fl (a + 1), fl b) := by
  have e1 : floatBits .add .f64 (fl a) 4607182418800017408 = some (fl (a + 1)) := by rw [← fl_one]; exact add_fl ha (by omega) (by omega)
  have e2 : floatBits .add .f64 (fl b) 0 = some (fl b) := by
    have := add_fl hb (n := 0) (by omega) (by omega)
    rw [fl_zero, Int.add_zero] at this; exact this
  unfold cSumBits; rw [e1, e2]; rfl

theorem cadd_wait {a b : Int} (ha : 0 ≤ a) (hb : 0 ≤ b) (h : a < 1099511627777) (h' : b < 1099511627777) : cSumBits .add .f64 (fl a) (fl b) 0 4607182418800017408 = some (fl a, fl (b + 1)) := by
  have e1 : floatBits .add .f64 (fl b) 4607182418800017408 = some (fl (b + 1)) := by rw [← fl_one]; exact add_fl hb (by omega) (by omega)
  have e2 : floatBits .add .f64 (fl a) 0 = some (fl a) := by
    have := add_fl ha (n := 0) (by omega) (by omega)
    rw [fl_zero, Int.add_zero] at this; exact this
  unfold cSumBits; rw [e1, e2]; rfl

theorem csub_busy {a b : Int} (ha : 1 ≤ a) (hb : 0 ≤ b) (h : a < 1099511627777) (h' : b < 1099511627777) : cSumBits .sub .f64 (fl a) (fl b) 4607182418800017408 0 = some (fl (a - 1), fl b) := by
  have e1 : floatBits .sub .f64 (fl a) 4607182418800017408 = some (fl (a - 1)) := by rw [← fl_one]; exact sub_fl (by omega) ha (by omega)
  have e2 : floatBits .sub .f64 (fl b) 0 = some (fl b) := by
    have := sub_fl (m := b) (n := 0) (by omega) hb (by omega)
    rw [fl_zero, Int.sub_zero] at this; exact this
  unfold cSumBits; rw [e1, e2]; rfl

theorem csub_wait {a b : Int} (ha : 0 ≤ a) (hb : 1 ≤ b) (h : a < 1099511627777) (h' : b < 1099511627777) : cSumBits .sub .f64 (fl a) (fl b) 0 4607182418800017408 = some (fl a, fl (b - 1)) := by
  have e1 : floatBits .sub .f64 (fl b) 4607182418800017408 = some (fl (b - 1)) := by rw [← fl_one]; exact sub_fl (by omega) hb (by omega)
  have e2 : floatBits .sub .f64 (fl a) 0 = some (fl a) := by
    have := sub_fl (m := a) (n := 0) (by omega) ha (by omega)
    rw [fl_zero, Int.sub_zero] at this; exact this
  unfold cSumBits; rw [e1, e2]; rfl

/-- A number between 0 and 2^40. -/
def cut (n : Int) : Int := min (max n 0) 1099511627776

theorem cut_bd (n : Int) : 0 ≤ cut n ∧ cut n ≤ 1099511627776 := by unfold cut; omega
theorem cut_in {n : Int} (h0 : 0 ≤ n) (h : n ≤ 1099511627776) : cut n = n := by unfold cut; omega

end Go.Proofs.Ytnlfocmmnjgmpaa.Fl
