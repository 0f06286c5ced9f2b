/- Whole numbers from 0 to 2^53 as float64: they are exact, and are compared, added, taken away and cut to integers exactly; what whole part a raw float64 has between 0 and 2^40. What the functions of package load give, as functions on whole numbers and on the bits of the parts. What pick.Least gives. Packages stat, sample: what their functions give. Packages stat (Spread), sample: what their functions give. Package sample: what its functions give. Package ring: New, forget. -/
import Derived.Laws.ComplexArith
import Derived.Test.YtdgphoemjeakaaaGreatDoorQ01
import Derived.BigQuiet
import Derived.Test.YtdgphoemjeakaaaGreatDoorQ03
import Derived.Handy
import Derived.Deep.RegionHeld3
/-! Whole numbers from 0 to 2^53 as float64: they are exact, and are compared, added, taken away and cut to integers exactly; what whole part a raw float64 has between 0 and 2^40. -/
namespace Go.Proofs.YtdgphoemjeakaaaGreatDoor.Fl
open Go

theorem log2_scaled {n : Nat} (h : n ≠ 0) (M : Nat) : (n * 2 ^ M).log2 = n.log2 + M := by
  have h2 : n * 2 ^ M ≠ 0 := Nat.mul_ne_zero h (Nat.ne_of_gt (Nat.two_pow_pos M))
  rw [Nat.log2_eq_iff h2]
  have a := Nat.log2_self_le h
  have b := Nat.lt_log2_self (n := n)
  constructor
  · rw [Nat.pow_add]; exact Nat.mul_le_mul_right _ a
  · rw [show n.log2 + M + 1 = (n.log2 + 1) + M from by omega, Nat.pow_add]
    exact Nat.mul_lt_mul_of_pos_right b (Nat.two_pow_pos M)

/-- What is a multiple of what is dropped is cut exactly. -/
theorem cut_exact (way : Ieee.Toward) (neg : Bool) (n drop : Nat) : way.cut neg (n * 2 ^ drop) drop = n := by
  unfold Ieee.Toward.cut
  by_cases hn : n = 0
  · subst hn
    have hp : 0 < 1 <<< min drop (Nat.log2 0 + 2) := by rw [Nat.one_shiftLeft]; exact Nat.two_pow_pos _
    simp only [Nat.zero_mul, Nat.zero_div, Nat.zero_mod, Nat.mul_zero, Nat.zero_add]
    cases way <;> simp
  · have hl : min drop ((n * 2 ^ drop).log2 + 2) = drop := by rw [log2_scaled hn]; omega
    have hp : 0 < 2 ^ drop := Nat.two_pow_pos drop
    simp only [hl, Nat.one_shiftLeft, Nat.mul_mod_left, Nat.mul_div_cancel _ hp, Nat.mul_zero]
    have h0 : ¬ (2 ^ drop < 0) := by omega
    have h1 : (2 ^ drop == 0) = false := by simp
    cases way <;> simp

/-- Cut towards zero: the quotient. -/
theorem cut_zero (neg : Bool) (x drop : Nat) : Ieee.Toward.zero.cut neg x drop = x / 2 ^ drop := by
  unfold Ieee.Toward.cut
  simp only [Nat.one_shiftLeft, Bool.toNat_false, Nat.add_zero]
  by_cases h : drop ≤ x.log2 + 2
  · rw [Nat.min_eq_left h]
  · rw [Nat.min_eq_right (by omega)]
    have b := Nat.lt_log2_self (n := x)
    have c : 2 ^ (x.log2 + 1) ≤ 2 ^ (x.log2 + 2) := Nat.pow_le_pow_right (by omega) (by omega)
    have d : 2 ^ (x.log2 + 1) ≤ 2 ^ drop := Nat.pow_le_pow_right (by omega) (by omega)
    rw [Nat.div_eq_of_lt (by omega), Nat.div_eq_of_lt (by omega)]

def canon (n : Nat) : Nat := if n = 0 then 0 else (n.log2 + 1022) * 2 ^ 52 + n * 2 ^ (52 - n.log2)

theorem log2_le {n : Nat} (h : n < 2 ^ 53) : n.log2 ≤ 52 := by
  by_cases hn : n = 0
  · subst hn; decide
  · have := (Nat.log2_lt hn).2 h; omega

theorem canon_lt {n : Nat} (hn : n ≠ 0) (h : n < 2 ^ 53) : 2 ^ 52 ≤ n * 2 ^ (52 - n.log2) ∧ n * 2 ^ (52 - n.log2) < 2 ^ 53 := by
  have hl := log2_le h
  have a := Nat.log2_self_le hn
  have b := Nat.lt_log2_self (n := n)
  have p := Nat.two_pow_pos (52 - n.log2)
  constructor
  · have := Nat.mul_le_mul_right (2 ^ (52 - n.log2)) a
    rwa [← Nat.pow_add, show n.log2 + (52 - n.log2) = 52 from by omega] at this
  · have := Nat.mul_lt_mul_of_pos_right b p
    rwa [← Nat.pow_add, show n.log2 + 1 + (52 - n.log2) = 53 from by omega] at this

theorem kept_scaled {n M : Nat} (h : n < 2 ^ 53) :
    Ieee.Toward.even.cut false ((n * 2 ^ M) <<< (-(M : Int) - ((n.log2 : Int) - 52)).toNat) (((n.log2 : Int) - 52) - -(M : Int)).toNat = n * 2 ^ (52 - n.log2) := by
  have hl := log2_le h
  by_cases hM : M ≤ 52 - n.log2
  · have e1 : (-(M : Int) - ((n.log2 : Int) - 52)).toNat = 52 - n.log2 - M := by omega
    have e2 : (((n.log2 : Int) - 52) - -(M : Int)).toNat = 0 := by omega
    rw [e1, e2, Nat.shiftLeft_eq, Nat.mul_assoc, ← Nat.pow_add, show M + (52 - n.log2 - M) = 52 - n.log2 from by omega]
    have := cut_exact .even false (n * 2 ^ (52 - n.log2)) 0
    simpa using this
  · have e1 : (-(M : Int) - ((n.log2 : Int) - 52)).toNat = 0 := by omega
    have e2 : (((n.log2 : Int) - 52) - -(M : Int)).toNat = M - (52 - n.log2) := by omega
    rw [e1, e2, Nat.shiftLeft_eq, Nat.pow_zero, Nat.mul_one]
    have e3 : n * 2 ^ M = n * 2 ^ (52 - n.log2) * 2 ^ (M - (52 - n.log2)) := by
      rw [Nat.mul_assoc, ← Nat.pow_add, show 52 - n.log2 + (M - (52 - n.log2)) = M from by omega]
    rw [e3, cut_exact]

theorem nearest_scaled {n : Nat} (M : Nat) (h : n < 2 ^ 53) : Ieee.double.nearest false (n * 2 ^ M) (-(M : Int)) = canon n := by
  by_cases hn : n = 0
  · subst hn
    simp [Ieee.Format.nearest, Ieee.Format.word, canon]
  · have hl := log2_le h
    have h2 : n * 2 ^ M ≠ 0 := Nat.mul_ne_zero hn (Nat.ne_of_gt (Nat.two_pow_pos M))
    have hc := canon_lt hn h
    unfold Ieee.Format.nearest canon
    rw [if_neg h2, if_neg hn, log2_scaled hn]
    have hfb : Ieee.double.fractionBits = 52 := rfl
    have hlp : Ieee.double.leastPlace = -1074 := by decide
    have hbi : Ieee.double.binade = 2 ^ 52 := rfl
    have hir : Ieee.double.infRung = 2047 * 2 ^ 52 := by decide
    have hmax : max (-(M : Int) + ((n.log2 + M : Nat) : Int) - (Ieee.double.fractionBits : Int)) Ieee.double.leastPlace = (n.log2 : Int) - 52 := by
      rw [hfb, hlp]; omega
    simp only [hmax]
    rw [kept_scaled h, hlp, hbi, hir]
    have e : (((n.log2 : Int) - 52) - -1074).toNat = n.log2 + 1022 := by omega
    rw [e]
    unfold Ieee.Format.word
    simp only [Bool.false_eq_true, if_false]
    rw [Nat.min_eq_left]
    omega

/-- b stands for the whole number n, without a sign. -/
def Rep (b n : Nat) : Prop := ∃ k : Nat, Ieee.double.read b = .number false (n * 2 ^ k) (-(k : Int))

theorem rep_of {b n k m : Nat} (h : Ieee.double.read b = .number false m (-(k : Int))) (hm : m = n * 2 ^ k) : Rep b n := ⟨k, hm ▸ h⟩

theorem read_zero : Ieee.double.read 0 = .number false 0 (-1074) := by decide

theorem rep_nought {b k : Nat} (h : Ieee.double.read b = .number false 0 (-(k : Int))) : Rep b 0 := rep_of h (Nat.zero_mul _).symm

/-- The bits of 0.0. -/
theorem rep_zero : Rep 0 0 := rep_nought (k := 1074) read_zero

theorem rep_canon {n : Nat} (h : n < 2 ^ 53) : Rep (canon n) n := by
  by_cases hn : n = 0
  · subst hn; exact rep_zero
  · have hl := log2_le h
    have hc := canon_lt hn h
    refine ⟨52 - n.log2, ?_⟩
    generalize hK : n * 2 ^ (52 - n.log2) = K at *
    have hcan : canon n = (n.log2 + 1022) * 2 ^ 52 + K := by unfold canon; rw [if_neg hn, hK]
    have hsw : Ieee.double.signWeight = 2 ^ 63 := by decide
    have hlp : Ieee.double.leastPlace = -1074 := by decide
    have hbi : Ieee.double.binade = 2 ^ 52 := rfl
    have hir : Ieee.double.infRung = 2047 * 2 ^ 52 := by decide
    unfold Ieee.Format.read
    rw [hsw, hlp, hbi, hir, hcan]
    have h1 : ((n.log2 + 1022) * 2 ^ 52 + K) / 2 ^ 63 % 2 = 0 := by omega
    have h2 : ((n.log2 + 1022) * 2 ^ 52 + K) % 2 ^ 63 = (n.log2 + 1022) * 2 ^ 52 + K := by omega
    have h3 : ((n.log2 + 1022) * 2 ^ 52 + K) % 2 ^ 52 = K - 2 ^ 52 := by omega
    have h4 : ((n.log2 + 1022) * 2 ^ 52 + K) / 2 ^ 52 = n.log2 + 1023 := by omega
    simp only [h1, h2, h3, h4]
    rw [if_neg (by omega), if_pos (by omega)]
    have e1 : 2 ^ 52 + (K - 2 ^ 52) = K := by omega
    have e2 : (-1074 : Int) + ((n.log2 + 1023 - 1 : Nat) : Int) = -((52 - n.log2 : Nat) : Int) := by omega
    rw [e1, e2]
    rfl

/-- The bits of a whole number. -/
theorem nearest_eq {n : Nat} (h : n < 2 ^ 53) : FloatKind.f64.nearest (n : Int) = canon n := by
  have h0 : decide ((n : Int) < 0) = false := by simp
  have h1 : ((n : Int)).natAbs = n := Int.natAbs_natCast n
  unfold FloatKind.nearest FloatKind.encode
  show Ieee.double.write _ = _
  unfold Ieee.Format.write
  simp only [h0, h1]
  have := nearest_scaled (n := n) 0 h
  simpa using this

theorem nearest_int {n : Int} (h0 : 0 ≤ n) (h : n < 2 ^ 53) : FloatKind.f64.nearest n = canon n.toNat := by
  have := nearest_eq (n := n.toNat) (by omega)
  rwa [Int.toNat_of_nonneg h0] at this

theorem compare_scaled (a b : Int) {p : Int} (hp : 0 < p) : compare (a * p) (b * p) = compare a b := by
  rcases Int.lt_trichotomy a b with h | h | h
  · rw [Int.compare_eq_lt.2 h, Int.compare_eq_lt.2 (Int.mul_lt_mul_of_pos_right h hp)]
  · subst h; rw [Int.compare_eq_eq.2 rfl, Int.compare_eq_eq.2 rfl]
  · rw [Int.compare_eq_gt.2 h, Int.compare_eq_gt.2 (Int.mul_lt_mul_of_pos_right h hp)]

theorem signed_false (m k : Nat) : Ieee.signed false m k = ((m * 2 ^ k : Nat) : Int) := by
  simp [Ieee.signed, Nat.shiftLeft_eq]

theorem signed_true (m k : Nat) : Ieee.signed true m k = -((m * 2 ^ k : Nat) : Int) := by
  simp [Ieee.signed, Nat.shiftLeft_eq]

theorem scaled_to {n k K : Nat} (h : k ≤ K) : n * 2 ^ k * 2 ^ (-(k : Int) - -(K : Int)).toNat = n * 2 ^ K := by
  rw [show (-(k : Int) - -(K : Int)).toNat = K - k from by omega, Nat.mul_assoc, ← Nat.pow_add, show k + (K - k) = K from by omega]

theorem min_neg (k j : Nat) : min (-(k : Int)) (-(j : Int)) = -((max k j : Nat) : Int) := by omega

/-- Whole numbers are compared as whole numbers. -/
theorem order_rep {a b m n : Nat} (ha : Rep a m) (hb : Rep b n) : Ieee.double.order a b = some (compare (m : Int) (n : Int)) := by
  obtain ⟨k, hk⟩ := ha
  obtain ⟨j, hj⟩ := hb
  unfold Ieee.Format.order
  rw [hk, hj]
  unfold Ieee.Datum.order
  simp only [min_neg, signed_false]
  rw [scaled_to (Nat.le_max_left k j), scaled_to (Nat.le_max_right k j)]
  have := compare_scaled (m : Int) (n : Int) (p := ((2 ^ max k j : Nat) : Int)) (by exact_mod_cast Nat.two_pow_pos _)
  rw [Int.natCast_mul, Int.natCast_mul, this]

theorem toInt_rep {a m : Nat} (ha : Rep a m) : (FloatKind.f64.decode a).toInt .zero = some (m : Int) := by
  obtain ⟨k, hk⟩ := ha
  show (Ieee.double.read a).toInt .zero = _
  rw [hk]
  unfold Ieee.Datum.toInt Ieee.Datum.integral
  simp only [cut_zero]
  rw [show (-(k : Int)).toNat = 0 from by omega, show (- -(k : Int)).toNat = k from by omega, Nat.shiftLeft_eq, Nat.pow_zero, Nat.mul_one, Nat.mul_div_cancel _ (Nat.two_pow_pos k), signed_false]
  simp

theorem add_rep {a b m n : Nat} (ha : Rep a m) (hb : Rep b n) (h : m + n < 2 ^ 53) : Ieee.double.add a b = some (canon (m + n)) := by
  obtain ⟨k, hk⟩ := ha
  obtain ⟨j, hj⟩ := hb
  unfold Ieee.Format.add
  rw [hk, hj]
  unfold Ieee.Datum.sum
  simp only [min_neg, signed_false]
  rw [scaled_to (Nat.le_max_left k j), scaled_to (Nat.le_max_right k j)]
  have e : ((m * 2 ^ max k j : Nat) : Int) + ((n * 2 ^ max k j : Nat) : Int) = (((m + n) * 2 ^ max k j : Nat) : Int) := by
    rw [Nat.add_mul]; omega
  rw [e]
  have e2 : (if (((m + n) * 2 ^ max k j : Nat) : Int) = 0 then false && false else decide ((((m + n) * 2 ^ max k j : Nat) : Int) < 0)) = false := by
    split
    · rfl
    · exact decide_eq_false (Int.not_lt.2 (Int.natCast_nonneg _))
  rw [e2, Int.natAbs_natCast]
  simp only [Option.map_some, Ieee.Format.write]
  rw [nearest_scaled _ h]

theorem sub_rep {a b m n : Nat} (ha : Rep a m) (hb : Rep b n) (h : n ≤ m) (h53 : m < 2 ^ 53) : Ieee.double.sub a b = some (canon (m - n)) := by
  obtain ⟨k, hk⟩ := ha
  obtain ⟨j, hj⟩ := hb
  unfold Ieee.Format.sub
  rw [hk, hj]
  unfold Ieee.Datum.opposite Ieee.Datum.sum
  simp only [min_neg, signed_false, Bool.not_false, signed_true]
  rw [scaled_to (Nat.le_max_left k j), scaled_to (Nat.le_max_right k j)]
  have e : ((m * 2 ^ max k j : Nat) : Int) + -((n * 2 ^ max k j : Nat) : Int) = (((m - n) * 2 ^ max k j : Nat) : Int) := by
    rw [Nat.sub_mul]
    have := Nat.mul_le_mul_right (2 ^ max k j) h
    omega
  rw [e]
  have e2 : (if (((m - n) * 2 ^ max k j : Nat) : Int) = 0 then false && true else decide ((((m - n) * 2 ^ max k j : Nat) : Int) < 0)) = false := by
    split
    · rfl
    · exact decide_eq_false (Int.not_lt.2 (Int.natCast_nonneg _))
  rw [e2, Int.natAbs_natCast]
  simp only [Option.map_some, Ieee.Format.write]
  rw [nearest_scaled _ (by omega)]

/-- The whole part of what a float64 stands for, from 0 to 2^40; of what is no number 0. -/
def wholeD : Ieee.Datum → Int
  | .nan _ _ => 0
  | .infinity s => if s then 0 else 1099511627776
  | .number s m e => if s then 0 else min (((m * 2 ^ e.toNat) / 2 ^ (-e).toNat : Nat) : Int) 1099511627776

def whole (x : Nat) : Int := wholeD (Ieee.double.read x)

theorem wholeD_bd (d : Ieee.Datum) : 0 ≤ wholeD d ∧ wholeD d ≤ 1099511627776 := by
  unfold wholeD
  split
  · omega
  · split <;> omega
  · split
    · omega
    · have := Int.natCast_nonneg (‹Nat› * 2 ^ ‹Int›.toNat / 2 ^ (-‹Int›).toNat)
      omega

theorem whole_bd (x : Nat) : 0 ≤ whole x ∧ whole x ≤ 1099511627776 := wholeD_bd _

theorem whole_rep {a m : Nat} (ha : Rep a m) : whole a = min (m : Int) 1099511627776 := by
  obtain ⟨k, hk⟩ := ha
  unfold whole
  rw [hk]
  unfold wholeD
  simp only [Bool.false_eq_true, if_false]
  rw [show (-(k : Int)).toNat = 0 from by omega, show (- -(k : Int)).toNat = k from by omega, Nat.pow_zero, Nat.mul_one, Nat.mul_div_cancel _ (Nat.two_pow_pos k)]



def topBits : Nat := 4787326403894837248

theorem read_top : Ieee.double.read topBits = .number false 4503599627370496 (-12) := by decide +kernel
theorem rep_top : Rep topBits 1099511627776 := ⟨12, by rw [read_top]; decide +kernel⟩

theorem signed_sign (s : Bool) (m k : Nat) : (m = 0 → Ieee.signed s m k = 0) ∧ (m ≠ 0 → s = true → Ieee.signed s m k < 0) ∧ (m ≠ 0 → s = false → 0 < Ieee.signed s m k) := by
  have p := Nat.two_pow_pos k
  refine ⟨fun h => ?_, fun h hs => ?_, fun h hs => ?_⟩
  · subst h; cases s <;> simp [Ieee.signed]
  · subst hs; rw [signed_true]
    have := Nat.mul_pos (Nat.pos_of_ne_zero h) p
    omega
  · subst hs; rw [signed_false]
    have := Nat.mul_pos (Nat.pos_of_ne_zero h) p
    omega

theorem order_zero_number {x : Nat} {s : Bool} {m : Nat} {e : Int} (h : Ieee.double.read x = .number s m e) :
    Ieee.double.order x 0 = some (if m = 0 then .eq else if s then .lt else .gt) := by
  unfold Ieee.Format.order
  rw [h, read_zero]
  unfold Ieee.Datum.order
  simp only [signed_false, Nat.zero_mul]
  rw [show ((0 : Nat) : Int) = 0 from rfl]
  obtain ⟨a, b, c⟩ := signed_sign s m (e - min e (-1074)).toNat
  by_cases hm : m = 0
  · rw [if_pos hm, a hm]; rfl
  · rw [if_neg hm]
    cases s with
    | true => rw [if_pos rfl, Int.compare_eq_lt.2 (b hm rfl)]
    | false => rw [if_neg (by decide), Int.compare_eq_gt.2 (c hm rfl)]

theorem pow_split (a b : Nat) (h : b ≤ a) : 2 ^ a = 2 ^ b * 2 ^ (a - b) := by rw [← Nat.pow_add]; congr 1; omega

theorem cmp_mul (a b p : Nat) (hp : 0 < p) : compare ((a * p : Nat) : Int) ((b * p : Nat) : Int) = compare (a : Int) (b : Int) := by
  have := compare_scaled (a : Int) (b : Int) (p := (p : Int)) (by omega)
  rwa [← Int.natCast_mul, ← Int.natCast_mul] at this

theorem order_top_number {x : Nat} {s : Bool} {m : Nat} {e : Int} (h : Ieee.double.read x = .number s m e) :
    Ieee.double.order x topBits = some (if s then .lt else compare ((m * 2 ^ e.toNat : Nat) : Int) ((1099511627776 * 2 ^ (-e).toNat : Nat) : Int)) := by
  unfold Ieee.Format.order
  rw [h, read_top]
  unfold Ieee.Datum.order
  cases s with
  | true =>
    have p := Nat.two_pow_pos (-12 - min e (-12)).toNat
    simp only [signed_false, if_true, signed_true]
    rw [Int.compare_eq_lt.2]
    have := Int.natCast_nonneg (m * 2 ^ (e - min e (-12)).toNat)
    have q : 0 < 4503599627370496 * 2 ^ (-12 - min e (-12)).toNat := Nat.mul_pos (by decide) p
    omega
  | false =>
    simp only [signed_false, Bool.false_eq_true, if_false]
    congr 1
    by_cases h1 : 0 ≤ e
    · have e1 : (e - min e (-12)).toNat = e.toNat + 12 := by omega
      have e2 : (-12 - min e (-12)).toNat = 0 := by omega
      have e3 : (-e).toNat = 0 := by omega
      rw [e1, e2, e3, Nat.pow_add, ← Nat.mul_assoc]
      rw [show 4503599627370496 * 2 ^ 0 = 1099511627776 * 2 ^ 0 * 2 ^ 12 from by decide]
      exact cmp_mul _ _ _ (by decide)
    · by_cases h2 : -12 ≤ e
      · obtain ⟨k, rfl⟩ : ∃ k : Nat, e = -(k : Int) := ⟨(-e).toNat, by omega⟩
        have hk : k ≤ 12 := by omega
        have e1 : (-(k : Int) - min (-(k : Int)) (-12)).toNat = 12 - k := by omega
        have e2 : (-12 - min (-(k : Int)) (-12)).toNat = 0 := by omega
        have e3 : (- -(k : Int)).toNat = k := by omega
        have e4 : (-(k : Int)).toNat = 0 := by omega
        rw [e1, e2, e3, e4]
        have e5 : 4503599627370496 * 2 ^ 0 = 1099511627776 * 2 ^ k * 2 ^ (12 - k) := by
          rw [Nat.mul_assoc, ← Nat.pow_add, show k + (12 - k) = 12 from by omega]
        rw [e5, show m * 2 ^ (12 - k) = m * 2 ^ 0 * 2 ^ (12 - k) from by rw [Nat.pow_zero, Nat.mul_one]]
        exact cmp_mul _ _ _ (Nat.two_pow_pos _)
      · obtain ⟨k, rfl⟩ : ∃ k : Nat, e = -(k : Int) := ⟨(-e).toNat, by omega⟩
        have hk : 12 < k := by omega
        have e1 : (-(k : Int) - min (-(k : Int)) (-12)).toNat = 0 := by omega
        have e2 : (-12 - min (-(k : Int)) (-12)).toNat = k - 12 := by omega
        have e3 : (- -(k : Int)).toNat = k := by omega
        have e4 : (-(k : Int)).toNat = 0 := by omega
        rw [e1, e2, e3, e4, show 4503599627370496 * 2 ^ (k - 12) = 1099511627776 * 2 ^ k from by
          rw [pow_split k 12 (by omega), ← Nat.mul_assoc]]

theorem toInt_number {x : Nat} {s : Bool} {m : Nat} {e : Int} (h : Ieee.double.read x = .number s m e) :
    (FloatKind.f64.decode x).toInt .zero = some (if s then -(((m * 2 ^ e.toNat) / 2 ^ (-e).toNat : Nat) : Int) else (((m * 2 ^ e.toNat) / 2 ^ (-e).toNat : Nat) : Int)) := by
  show (Ieee.double.read x).toInt .zero = _
  rw [h]
  unfold Ieee.Datum.toInt Ieee.Datum.integral
  simp only [cut_zero, Nat.shiftLeft_eq]
  cases s with
  | true => rw [signed_true, Nat.pow_zero, Nat.mul_one, if_pos rfl]
  | false => rw [signed_false, Nat.pow_zero, Nat.mul_one, if_neg (by decide)]

theorem order_nan {x y : Nat} {s : Bool} {f : Nat} (h : Ieee.double.read x = .nan s f) : Ieee.double.order x y = none := by
  unfold Ieee.Format.order; rw [h]; rfl

theorem order_inf {x y : Nat} {s t : Bool} {m : Nat} {e : Int} (h : Ieee.double.read x = .infinity s) (hy : Ieee.double.read y = .number t m e) : Ieee.double.order x y = some (if s then .lt else .gt) := by
  unfold Ieee.Format.order; rw [h, hy]; rfl

theorem toIntVal_of {x : Nat} {n : Int} (h : (FloatKind.f64.decode x).toInt .zero = some n) (h0 : -9223372036854775808 ≤ n) (h1 : n ≤ 9223372036854775807) : floatToIntVal .f64 x .i64 = some n := by
  unfold floatToIntVal
  rw [h]
  have a : IntKind.i64.min = -9223372036854775808 := by decide
  have b : IntKind.i64.max = 9223372036854775807 := by decide
  simp only [a, b]
  rw [if_pos ⟨h0, h1⟩]

theorem whole_no {x : Nat} (h : (Ieee.double.order x 0 == some .gt) = false) : whole x = 0 := by
  unfold whole
  cases hr : Ieee.double.read x with
  | nan s f => rfl
  | infinity s =>
    rw [order_inf hr read_zero] at h
    cases s with
    | true => rfl
    | false => simp at h
  | number s m e =>
    rw [order_zero_number hr] at h
    cases s with
    | true => rfl
    | false =>
      by_cases hm : m = 0
      · subst hm; simp [wholeD]; rfl
      · rw [if_neg hm] at h; simp at h

theorem whole_top {x : Nat} (h : (Ieee.double.order x topBits == some .gt) = true) : whole x = 1099511627776 := by
  unfold whole
  cases hr : Ieee.double.read x with
  | nan s f => rw [order_nan hr] at h; simp at h
  | infinity s =>
    rw [order_inf hr read_top] at h
    cases s with
    | true => simp at h
    | false => rfl
  | number s m e =>
    rw [order_top_number hr] at h
    cases s with
    | true => simp at h
    | false =>
      simp only [Bool.false_eq_true, if_false, beq_iff_eq, Option.some.injEq, Int.compare_eq_gt] at h
      have p := Nat.two_pow_pos (-e).toNat
      have q : 1099511627776 ≤ (m * 2 ^ e.toNat) / 2 ^ (-e).toNat := (Nat.le_div_iff_mul_le p).2 (by omega)
      unfold wholeD
      simp only [Bool.false_eq_true, if_false]
      omega

theorem whole_int {x : Nat} (h : (Ieee.double.order x 0 == some .gt) = true) (h1 : (Ieee.double.order x topBits == some .gt) = false) : floatToIntVal .f64 x .i64 = some (whole x) := by
  unfold whole
  cases hr : Ieee.double.read x with
  | nan s f => rw [order_nan hr] at h; simp at h
  | infinity s =>
    rw [order_inf hr read_zero] at h
    rw [order_inf hr read_top] at h1
    cases s with
    | true => simp at h
    | false => simp at h1
  | number s m e =>
    rw [order_zero_number hr] at h
    rw [order_top_number hr] at h1
    have hti := toInt_number hr
    by_cases hm : m = 0
    · rw [if_pos hm] at h; simp at h
    · rw [if_neg hm] at h
      cases s with
      | true => simp at h
      | false =>
        simp only [Bool.false_eq_true, if_false] at h1 hti
        have h2 : ¬ (compare ((m * 2 ^ e.toNat : Nat) : Int) ((1099511627776 * 2 ^ (-e).toNat : Nat) : Int) = .gt) := by
          intro hc; rw [hc] at h1; simp at h1
        rw [Int.compare_eq_gt] at h2
        have p := Nat.two_pow_pos (-e).toNat
        have q : (m * 2 ^ e.toNat) / 2 ^ (-e).toNat ≤ 1099511627776 := Nat.div_le_of_le_mul (by rw [Nat.mul_comm (2 ^ (-e).toNat)]; omega)
        have hw : wholeD (.number false m e) = (((m * 2 ^ e.toNat) / 2 ^ (-e).toNat : Nat) : Int) := by
          unfold wholeD
          simp only [Bool.false_eq_true, if_false]
          omega
        rw [hw]
        generalize (m * 2 ^ e.toNat) / 2 ^ (-e).toNat = Q at hti q ⊢
        exact toIntVal_of hti (by omega) (by omega)

/-- Where it is 2^40 its whole part is 2^40. -/
theorem whole_top_eq {x : Nat} (h : (Ieee.double.order x topBits == some .eq) = true) : whole x = 1099511627776 := by
  unfold whole
  cases hr : Ieee.double.read x with
  | nan s f => rw [order_nan hr] at h; simp at h
  | infinity s => rw [order_inf hr read_top] at h; cases s <;> simp at h
  | number s m e =>
    rw [order_top_number hr] at h
    cases s with
    | true => simp at h
    | false =>
      simp only [Bool.false_eq_true, if_false, beq_iff_eq, Option.some.injEq, Int.compare_eq_eq] at h
      have p := Nat.two_pow_pos (-e).toNat
      have q : 1099511627776 ≤ (m * 2 ^ e.toNat) / 2 ^ (-e).toNat := (Nat.le_div_iff_mul_le p).2 (by omega)
      unfold wholeD
      simp only [Bool.false_eq_true, if_false]
      omega

/-- Where it is nought it is cut to nought. -/
theorem whole_zero_eq {x : Nat} (h : (Ieee.double.order x 0 == some .eq) = true) : floatToIntVal .f64 x .i64 = some (whole x) := by
  have hw : whole x = 0 := by
    apply whole_no
    cases ho : Ieee.double.order x 0 with
    | none => rfl
    | some o => rw [ho] at h; cases o <;> simp_all
  rw [hw]
  cases hr : Ieee.double.read x with
  | nan s f => rw [order_nan hr] at h; simp at h
  | infinity s => rw [order_inf hr read_zero] at h; cases s <;> simp at h
  | number s m e =>
    rw [order_zero_number hr] at h
    have hti := toInt_number hr
    by_cases hm : m = 0
    · subst hm
      have : (FloatKind.f64.decode x).toInt .zero = some 0 := by rw [hti]; cases s <;> simp
      exact toIntVal_of this (by omega) (by omega)
    · rw [if_neg hm] at h; cases s <;> simp at h

/-- The bits of a whole number. -/
def fl (n : Int) : Nat := floatOfInt .f64 n

theorem fl_canon {n : Int} (h0 : 0 ≤ n) (h : n < 9007199254740992) : fl n = canon n.toNat := nearest_int h0 (by omega)

theorem rep_fl {n : Int} (h0 : 0 ≤ n) (h : n < 9007199254740992) : Rep (fl n) n.toNat := by
  rw [fl_canon h0 h]; exact rep_canon (by omega)

theorem whole_fl {n : Int} (h0 : 0 ≤ n) (h : n ≤ 1099511627776) : whole (fl n) = n := by
  rw [whole_rep (rep_fl h0 (by omega))]; omega

theorem order_fl {m n : Int} (h0 : 0 ≤ m) (h : m < 9007199254740992) (h0' : 0 ≤ n) (h' : n < 9007199254740992) : Ieee.double.order (fl m) (fl n) = some (compare m n) := by
  rw [order_rep (rep_fl h0 h) (rep_fl h0' h')]
  rw [Int.toNat_of_nonneg h0, Int.toNat_of_nonneg h0']

theorem eq_fl {m n : Int} (h0 : 0 ≤ m) (h : m < 9007199254740992) (h0' : 0 ≤ n) (h' : n < 9007199254740992) : (FloatKind.f64.format.order (fl m) (fl n) == some .eq) = decide (m = n) := by
  show (Ieee.double.order (fl m) (fl n) == some .eq) = _
  rw [order_fl h0 h h0' h']
  by_cases e : m = n
  · subst e; simp
  · rw [decide_eq_false e]
    rcases Int.lt_or_gt_of_ne e with l | l
    · rw [Int.compare_eq_lt.2 l]; rfl
    · rw [Int.compare_eq_gt.2 l]; rfl

theorem add_fl {m n : Int} (h0 : 0 ≤ m) (h0' : 0 ≤ n) (h : m + n < 9007199254740992) : Ieee.double.add (fl m) (fl n) = some (fl (m + n)) := by
  rw [add_rep (rep_fl h0 (by omega)) (rep_fl h0' (by omega)) (by omega), fl_canon (by omega) h]
  congr 2; omega

theorem sub_fl {m n : Int} (h0 : 0 ≤ n) (h : n ≤ m) (h' : m < 9007199254740992) : Ieee.double.sub (fl m) (fl n) = some (fl (m - n)) := by
  rw [sub_rep (rep_fl (by omega) (by omega)) (rep_fl h0 (by omega)) (by omega) (by omega), fl_canon (by omega) (by omega)]
  congr 2; omega

theorem fl_inj {m n : Int} (h0 : 0 ≤ m) (h : m ≤ 1099511627776) (h0' : 0 ≤ n) (h' : n ≤ 1099511627776) (e : fl m = fl n) : m = n := by
  rw [← whole_fl h0 h, ← whole_fl h0' h', e]

theorem fl_zero : fl 0 = 0 := by decide +kernel
theorem fl_one : fl 1 = 4607182418800017408 := by decide +kernel

/-- One more, one less, as '+' and '-' on complex numbers give them. -/
theorem cadd_busy {a b : Int} (ha : 0 ≤ a) (hb : 0 ≤ b) (h : a < 1099511627777) (h' : b < 1099511627777) : cSumBits .add .f64 (fl a) (fl b) 4607182418800017408 0 = some (fl (a + 1), fl b) := by
  have e1 : floatBits .add .f64 (fl a) 4607182418800017408 = some (fl (a + 1)) := by rw [← fl_one]; exact add_fl ha (by omega) (by omega)
  have e2 : floatBits .add .f64 (fl b) 0 = some (fl b) := by
    have := add_fl hb (n := 0) (by omega) (by omega)
    rw [fl_zero, Int.add_zero] at this; exact this
  unfold cSumBits; rw [e1, e2]; rfl

theorem cadd_wait {a b : Int} (ha : 0 ≤ a) (hb : 0 ≤ b) (h : a < 1099511627777) (h' : b < 1099511627777) : cSumBits .add .f64 (fl a) (fl b) 0 4607182418800017408 = some (fl a, fl (b + 1)) := by
  have e1 : floatBits .add .f64 (fl b) 4607182418800017408 = some (fl (b + 1)) := by rw [← fl_one]; exact add_fl hb (by omega) (by omega)
  have e2 : floatBits .add .f64 (fl a) 0 = some (fl a) := by
    have := add_fl ha (n := 0) (by omega) (by omega)
    rw [fl_zero, Int.add_zero] at this; exact this
  unfold cSumBits; rw [e1, e2]; rfl

theorem csub_busy {a b : Int} (ha : 1 ≤ a) (hb : 0 ≤ b) (h : a < 1099511627777) (h' : b < 1099511627777) : cSumBits .sub .f64 (fl a) (fl b) 4607182418800017408 0 = some (fl (a - 1), fl b) := by
  have e1 : floatBits .sub .f64 (fl a) 4607182418800017408 = some (fl (a - 1)) := by rw [← fl_one]; exact sub_fl (by omega) ha (by omega)
  have e2 : floatBits .sub .f64 (fl b) 0 = some (fl b) := by
    have := sub_fl (m := b) (n := 0) (by omega) hb (by omega)
    rw [fl_zero, Int.sub_zero] at this; exact this
  unfold cSumBits; rw [e1, e2]; rfl

theorem csub_wait {a b : Int} (ha : 0 ≤ a) (hb : 1 ≤ b) (h : a < 1099511627777) (h' : b < 1099511627777) : cSumBits .sub .f64 (fl a) (fl b) 0 4607182418800017408 = some (fl a, fl (b - 1)) := by
  have e1 : floatBits .sub .f64 (fl b) 4607182418800017408 = some (fl (b - 1)) := by rw [← fl_one]; exact sub_fl (by omega) hb (by omega)
  have e2 : floatBits .sub .f64 (fl a) 0 = some (fl a) := by
    have := sub_fl (m := a) (n := 0) (by omega) ha (by omega)
    rw [fl_zero, Int.sub_zero] at this; exact this
  unfold cSumBits; rw [e1, e2]; rfl

/-- A number between 0 and 2^40. -/
def cut (n : Int) : Int := min (max n 0) 1099511627776

theorem cut_bd (n : Int) : 0 ≤ cut n ∧ cut n ≤ 1099511627776 := by unfold cut; omega
theorem cut_in {n : Int} (h0 : 0 ≤ n) (h : n ≤ 1099511627776) : cut n = n := by unfold cut; omega

end Go.Proofs.YtdgphoemjeakaaaGreatDoor.Fl

/-! What the functions of package load give, as functions on whole numbers and on the bits of the parts. -/
namespace Go.Proofs.YtdgphoemjeakaaaGreatDoor.L
open Go.RowKit Go.Proofs.YtdgphoemjeakaaaGreatDoor.Fl
set_option maxRecDepth 100000

set_option maxHeartbeats 1000000 in
theorem whole_no (x : Nat) (w : World) (h : (Ieee.double.order x 0 == some .gt) = false) :
    Calls Tryz.prog 148 #[.float .f64 x] w fun e w' => e = .returned (.int .i64 0) ∧ w = w' := by
  have h1 : (FloatKind.f64.format.order x 0 == some .gt) = false := h
  clear h
  go_enter Tryz.func148, Tryz.ntmps148
  go_wp2
  go_ret
  exact ⟨rfl, rfl⟩

set_option maxHeartbeats 1000000 in
theorem whole_top (x : Nat) (w : World) (h : (Ieee.double.order x 0 == some .gt) = true) (h' : (Ieee.double.order x topBits == some .gt) = true) :
    Calls Tryz.prog 148 #[.float .f64 x] w fun e w' => e = .returned (.int .i64 1099511627776) ∧ w = w' := by
  have h1 : (FloatKind.f64.format.order x 0 == some .gt) = true := h
  have h2 : (FloatKind.f64.format.order x 4787326403894837248 == some .gt) = true := h'
  clear h h'
  go_enter Tryz.func148, Tryz.ntmps148
  go_wp2
  go_ret
  exact ⟨rfl, rfl⟩

set_option maxHeartbeats 1000000 in
theorem whole_int (x : Nat) (n : Int) (w : World) (h : (Ieee.double.order x 0 == some .gt) = true) (h' : (Ieee.double.order x topBits == some .gt) = false) (hn : floatToIntVal .f64 x .i64 = some n) :
    Calls Tryz.prog 148 #[.float .f64 x] w fun e w' => e = .returned (.int .i64 n) ∧ w = w' := by
  have h1 : (FloatKind.f64.format.order x 0 == some .gt) = true := h
  have h2 : (FloatKind.f64.format.order x 4787326403894837248 == some .gt) = false := h'
  have h3 : ∀ w : World, (convert 188 3 (.float .f64 x)).run Tryz.prog w = .ok (.int .i64 n) w := fun w => run_convert_float_int w 188 3 .f64 .i64 x n (by kernel_rfl) (by kernel_rfl) hn
  clear h h' hn
  go_enter Tryz.func148, Tryz.ntmps148
  go_wp2
  go_ret
  exact ⟨rfl, rfl⟩

theorem whole_any (x : Nat) (w : World) : Calls Tryz.prog 148 #[.float .f64 x] w fun e w' => e = .returned (.int .i64 (whole x)) ∧ w = w' := by
  by_cases h : (Ieee.double.order x 0 == some .gt) = true
  · by_cases h' : (Ieee.double.order x topBits == some .gt) = true
    · rw [Fl.whole_top h']; exact whole_top x w h h'
    · simp only [Bool.not_eq_true] at h'
      exact whole_int x _ w h h' (Fl.whole_int h h')
  · simp only [Bool.not_eq_true] at h
    rw [Fl.whole_no h]; exact whole_no x w h

set_option maxHeartbeats 1000000 in
theorem busy_any (x y : Nat) (w : World) : Calls Tryz.prog 113 #[.complex .f64 x y] w fun e w' => e = .returned (.int .i64 (whole x)) ∧ w = w' := by
  go_enter Tryz.func113, Tryz.ntmps113
  go_wp2_with (go_at_call 148; refine (whole_any _ _).mono ?_; rintro e w' ⟨rfl, rfl⟩)
  go_ret
  exact ⟨rfl, rfl⟩

set_option maxHeartbeats 1000000 in
theorem waiting_any (x y : Nat) (w : World) : Calls Tryz.prog 149 #[.complex .f64 x y] w fun e w' => e = .returned (.int .i64 (whole y)) ∧ w = w' := by
  go_enter Tryz.func149, Tryz.ntmps149
  go_wp2_with (go_at_call 148; refine (whole_any _ _).mono ?_; rintro e w' ⟨rfl, rfl⟩)
  go_ret
  exact ⟨rfl, rfl⟩

theorem underlying3 : (Tryz.prog.underlying 3).isSome = true := by kernel_rfl
theorem underlying188 : Tryz.prog.underlying 188 = some (.float .f64) := by kernel_rfl
theorem tofloat (n : Int) (w : World) : (convert 3 188 (.int .i64 n)).run Tryz.prog w = .ok (.float .f64 (fl n)) w := run_convert_int_float w 3 188 .i64 .f64 n underlying3 underlying188

theorem ret_cx {a a' b b' : Int} (h : a = a') (h' : b = b') : Ending.returned (.complex .f64 (fl a) (fl b)) = .returned (.complex .f64 (fl a') (fl b')) := by rw [h, h']
theorem ret_cx2 {a a' b b' : Int} {v : Value} (h : a = a') (h' : b = b') : Ending.returned (.tuple #[.complex .f64 (fl a) (fl b), v]) = .returned (.tuple #[.complex .f64 (fl a') (fl b'), v]) := by rw [h, h']
theorem ret_int {k : IntKind} {a b : Int} (h : a = b) : Ending.returned (.int k a) = .returned (.int k b) := by rw [h]
theorem ret_bool {a b : Bool} (h : a = b) : Ending.returned (.bool a) = .returned (.bool b) := by rw [h]

set_option maxHeartbeats 1000000 in
theorem of_any (a b : Int) (w : World) : Calls Tryz.prog 76 #[.int .i64 a, .int .i64 b] w fun e w' => e = .returned (.complex .f64 (fl (cut a)) (fl (cut b))) ∧ w = w' := by
  have hc := tofloat
  go_enter Tryz.func76, Tryz.ntmps76
  go_wp2
  all_goals
    go_ret
    exact ⟨ret_cx (by unfold cut; omega) (by unfold cut; omega), rfl⟩

def less (a b c d : Nat) : Bool := if whole a = whole c then decide (whole b < whole d) else decide (whole a < whole c)

set_option maxHeartbeats 1000000 in
theorem less_any (a b c d : Nat) (w : World) : Calls Tryz.prog 114 #[.complex .f64 a b, .complex .f64 c d] w fun e w' => e = .returned (.bool (less a b c d)) ∧ w = w' := by
  by_cases h : whole a = whole c
  · have h1 : (whole a != whole c) = false := by simp [h]
    have hl : less a b c d = decide (whole b < whole d) := by unfold less; rw [if_pos h]
    rw [hl]
    clear h hl
    go_enter Tryz.func114, Tryz.ntmps114
    go_wp2_with (first | (go_at_call 113; refine (busy_any _ _ _).mono ?_; rintro e w' ⟨rfl, rfl⟩) | (go_at_call 149; refine (waiting_any _ _ _).mono ?_; rintro e w' ⟨rfl, rfl⟩))
    go_ret
    exact ⟨rfl, rfl⟩
  · have h1 : (whole a != whole c) = true := by simp [h]
    have hl : less a b c d = decide (whole a < whole c) := by unfold less; rw [if_neg h]
    rw [hl]
    clear h hl
    go_enter Tryz.func114, Tryz.ntmps114
    go_wp2_with (first | (go_at_call 113; refine (busy_any _ _ _).mono ?_; rintro e w' ⟨rfl, rfl⟩) | (go_at_call 149; refine (waiting_any _ _ _).mono ?_; rintro e w' ⟨rfl, rfl⟩))
    go_ret
    exact ⟨rfl, rfl⟩

def In (x : Int) : Prop := 0 ≤ x ∧ x ≤ 1099511627776
theorem In.mk {x : Int} (h0 : 0 ≤ x) (h1 : x ≤ 1099511627776) : In x := ⟨h0, h1⟩

theorem of_in (a b : Int) (w : World) (ha : In a) (hb : In b) : Calls Tryz.prog 76 #[.int .i64 a, .int .i64 b] w fun e w' => e = .returned (.complex .f64 (fl a) (fl b)) ∧ w = w' := by
  have h := of_any a b w
  rwa [cut_in ha.1 ha.2, cut_in hb.1 hb.2] at h
theorem busy_in (a b : Int) (w : World) (ha : In a) : Calls Tryz.prog 113 #[.complex .f64 (fl a) (fl b)] w fun e w' => e = .returned (.int .i64 a) ∧ w = w' := by
  have h := busy_any (fl a) (fl b) w
  rwa [whole_fl ha.1 ha.2] at h
theorem waiting_in (a b : Int) (w : World) (hb : In b) : Calls Tryz.prog 149 #[.complex .f64 (fl a) (fl b)] w fun e w' => e = .returned (.int .i64 b) ∧ w = w' := by
  have h := waiting_any (fl a) (fl b) w
  rwa [whole_fl hb.1 hb.2] at h

def lessZ (a b c d : Int) : Bool := if a = c then decide (b < d) else decide (a < c)
theorem less_in (a b c d : Int) (w : World) (ha : In a) (hb : In b) (hc : In c) (hd : In d) : Calls Tryz.prog 114 #[.complex .f64 (fl a) (fl b), .complex .f64 (fl c) (fl d)] w fun e w' => e = .returned (.bool (lessZ a b c d)) ∧ w = w' := by
  have h := less_any (fl a) (fl b) (fl c) (fl d) w
  unfold less at h
  rwa [whole_fl ha.1 ha.2, whole_fl hb.1 hb.2, whole_fl hc.1 hc.2, whole_fl hd.1 hd.2] at h

end Go.Proofs.YtdgphoemjeakaaaGreatDoor.L

/-! What pick.Least gives. -/
namespace Go.Proofs.YtdgphoemjeakaaaGreatDoor.Pk
open Go.RowKit Go.Proofs.YtdgphoemjeakaaaGreatDoor.Fl Go.Proofs.YtdgphoemjeakaaaGreatDoor.L

/-- The least loaded of the first k. -/
def leastTo (zs : List (Nat × Nat)) (m : Int) : Nat → Int
  | 0 => -1
  | k + 1 => if whole (zs.getD k (0, 0)).1 < m ∧ (leastTo zs m k < 0 ∨ less (zs.getD k (0, 0)).1 (zs.getD k (0, 0)).2 (zs.getD (leastTo zs m k).toNat (0, 0)).1 (zs.getD (leastTo zs m k).toNat (0, 0)).2 = true) then k else leastTo zs m k

theorem leastTo_bd (zs : List (Nat × Nat)) (m : Int) (k : Nat) : -1 ≤ leastTo zs m k ∧ leastTo zs m k < k := by
  induction k with
  | zero => simp [leastTo]
  | succ k ih =>
    unfold leastTo
    split <;> omega

theorem least_keep {zs : List (Nat × Nat)} {m : Int} {k : Nat} (h : ¬ whole (zs.getD k (0, 0)).1 < m) : leastTo zs m (k + 1) = leastTo zs m k := by
  rw [leastTo, if_neg (by intro h'; exact h h'.1)]
theorem least_first {zs : List (Nat × Nat)} {m : Int} {k : Nat} (h : whole (zs.getD k (0, 0)).1 < m) (h' : leastTo zs m k < 0) : leastTo zs m (k + 1) = k := by
  rw [leastTo, if_pos ⟨h, .inl h'⟩]
theorem least_turn {zs : List (Nat × Nat)} {m : Int} {k : Nat} (h : whole (zs.getD k (0, 0)).1 < m) (h' : less (zs.getD k (0, 0)).1 (zs.getD k (0, 0)).2 (zs.getD (leastTo zs m k).toNat (0, 0)).1 (zs.getD (leastTo zs m k).toNat (0, 0)).2 = true) : leastTo zs m (k + 1) = k := by
  rw [leastTo, if_pos ⟨h, .inr h'⟩]
theorem least_stay {zs : List (Nat × Nat)} {m : Int} {k : Nat} (h0 : ¬ leastTo zs m k < 0) (h' : less (zs.getD k (0, 0)).1 (zs.getD k (0, 0)).2 (zs.getD (leastTo zs m k).toNat (0, 0)).1 (zs.getD (leastTo zs m k).toNat (0, 0)).2 = false) : leastTo zs m (k + 1) = leastTo zs m k := by
  rw [leastTo, if_neg (by intro h; rcases h.2 with a | a; exact h0 a; rw [h'] at a; cases a)]

set_option maxHeartbeats 1000000 in
theorem least_some (b off c : Nat) (zs : List (Nat × Nat)) (m : Int) (w : World) (hlen : zs.length ≤ 8796093022208)
    (hcell : ∀ k, k < zs.length → w.cell? ⟨b, off + k, none⟩ = some (.complex .f64 (zs.getD k (0, 0)).1 (zs.getD k (0, 0)).2)) :
    Calls Tryz.prog 78 #[.slice (some ⟨b, off, none⟩) zs.length c, .int .i64 m] w fun e w' => e = .returned (.int .i64 (leastTo zs m zs.length)) ∧ w = w' := by
  have HC : Hid (∀ k, k < zs.length → w.cell? ⟨b, off + k, none⟩ = some (.complex .f64 (zs.getD k (0, 0)).1 (zs.getD k (0, 0)).2)) := hcell
  clear hcell
  go_enter Tryz.func78, Tryz.ntmps78
  go_wp2_with fail
  go_loop [5, 10] (fun s i => ∃ k : Nat, k ≤ zs.length ∧ i = .int .i64 k ∧ s = .int .i64 (leastTo zs m k)) (fun _ i => zs.length - (intOf i).toNat)
  case atStart => exact ⟨0, Nat.zero_le _, rfl, rfl⟩
  case round =>
    obtain ⟨k, hk, rfl, rfl⟩ := hrel
    obtain ⟨a1, a2⟩ := leastTo_bd zs m k
    by_cases hlt : k < zs.length
    · have hc := HC.out k hlt
      by_cases hm : whole (zs.getD k (0, 0)).1 < m
      · by_cases h0 : leastTo zs m k < 0
        · have HK := Lib.hid (least_first hm h0)
          generalize leastTo zs m k = q at *
          generalize zs.getD k (0, 0) = z at *
          go_wp2_with (first | (go_at_call 113; refine (busy_any _ _ _).mono ?_; rintro e w' ⟨rfl, rfl⟩))
          go_round
          case rel => exact ⟨k + 1, by omega, by go_num, by rw [HK.out]⟩
          case measure => simp [intOf]; omega
        · have hc2 := HC.out (leastTo zs m k).toNat (by omega)
          cases hl : less (zs.getD k (0, 0)).1 (zs.getD k (0, 0)).2 (zs.getD (leastTo zs m k).toNat (0, 0)).1 (zs.getD (leastTo zs m k).toNat (0, 0)).2 with
          | true =>
            have HK := Lib.hid (least_turn hm hl)
            obtain ⟨q, hq⟩ : ∃ q : Nat, leastTo zs m k = q := ⟨(leastTo zs m k).toNat, by omega⟩
            rw [hq] at hc2 hl a1 a2 h0 ⊢
            rw [Int.toNat_natCast] at hc2 hl
            clear hq
            generalize zs.getD k (0, 0) = z at *
            generalize zs.getD q (0, 0) = z2 at *
            have hq0 : ((q : Int) < 0) = False := by simp
            have hql : q < zs.length := by omega
            have LS := Lib.hid (fun w => less_any z.1 z.2 z2.1 z2.2 w)
            rw [hl] at LS
            clear hl
            go_wp2_with (first | (go_at_call 113; refine (busy_any _ _ _).mono ?_; rintro e w' ⟨rfl, rfl⟩) | (go_at_call 114; refine (LS.out _).mono ?_; rintro e w' ⟨rfl, rfl⟩))
            go_round
            case rel => exact ⟨k + 1, by omega, by go_num, by rw [HK.out]⟩
            case measure => simp [intOf]; omega
          | false =>
            have HK := Lib.hid (least_stay h0 hl)
            obtain ⟨q, hq⟩ : ∃ q : Nat, leastTo zs m k = q := ⟨(leastTo zs m k).toNat, by omega⟩
            rw [hq] at HK hc2 hl a1 a2 h0 ⊢
            rw [Int.toNat_natCast] at hc2 hl
            clear hq
            generalize zs.getD k (0, 0) = z at *
            generalize zs.getD q (0, 0) = z2 at *
            have hq0 : ((q : Int) < 0) = False := by simp
            have hql : q < zs.length := by omega
            have LS := Lib.hid (fun w => less_any z.1 z.2 z2.1 z2.2 w)
            rw [hl] at LS
            clear hl
            go_wp2_with (first | (go_at_call 113; refine (busy_any _ _ _).mono ?_; rintro e w' ⟨rfl, rfl⟩) | (go_at_call 114; refine (LS.out _).mono ?_; rintro e w' ⟨rfl, rfl⟩))
            go_round
            case rel => exact ⟨k + 1, by omega, by go_num, by rw [HK.out]⟩
            case measure => simp [intOf]; omega
      · have HK := Lib.hid (least_keep hm)
        generalize leastTo zs m k = q at *
        generalize zs.getD k (0, 0) = z at *
        go_wp2_with (first | (go_at_call 113; refine (busy_any _ _ _).mono ?_; rintro e w' ⟨rfl, rfl⟩))
        go_round
        case rel => exact ⟨k + 1, by omega, by go_num, by rw [HK.out]⟩
        case measure => simp [intOf]; omega
    · obtain rfl : k = zs.length := by omega
      go_wp2
      go_ret
      exact ⟨rfl, rfl⟩

/-- The first that has room, from place k on: 'd' places are left. -/
def firstFrom (zs : List (Nat × Nat)) (m : Int) (k : Nat) : Nat → Int
  | 0 => -1
  | d + 1 => if whole (zs.getD k (0, 0)).1 < m then k else firstFrom zs m (k + 1) d
def firstOf (zs : List (Nat × Nat)) (m : Int) : Int := firstFrom zs m 0 zs.length

end Go.Proofs.YtdgphoemjeakaaaGreatDoor.Pk

/-! Packages stat, sample: what their functions give. -/
namespace Go.Proofs.YtdgphoemjeakaaaGreatDoor.S
open Go.RowKit Go.Proofs.YtdgphoemjeakaaaGreatDoor.K Go.Proofs.YtdgphoemjeakaaaGreatDoor.P
set_option maxRecDepth 100000

/-- What a pod tells: its number, its age, its load. -/
structure Stat where
  pod : Int
  age : Int
  load : Int
def Stat.cells (s : Stat) : List Value := [.int .i64 s.pod, .int .i64 s.age, .int .i64 s.load]
def cellsOf (l : List Stat) : List Value := l.flatMap Stat.cells
theorem cells_at (l : List Stat) (i j : Nat) (q : Stat) (h : l[i]? = some q) (hj : j < 3) : (cellsOf l)[i * 3 + j]? = q.cells[j]? := by
  induction l generalizing i with
  | nil => simp at h
  | cons a l ih =>
    have e : cellsOf (a :: l) = a.cells ++ cellsOf l := by simp [cellsOf]
    cases i with
    | zero =>
      simp at h
      subst h
      rw [e, List.getElem?_append_left (by simp [Stat.cells]; omega)]
      simp
    | succ i =>
      simp at h
      rw [e, List.getElem?_append_right (by simp [Stat.cells]; omega), ← ih i h]
      congr 1
      simp [Stat.cells]
      omega
theorem cells_snoc (l : List Stat) (q : Stat) : cellsOf (l ++ [q]) = cellsOf l ++ q.cells := by simp [cellsOf]
theorem stats_cells {w : World} {S : Nat → Prop} {l : List Stat} {g o c : Nat} (h : Own w S 161 3 (.slice (some ⟨g, o, none⟩) l.length c) l.length (cellsOf l)) {n : Nat} {q : Stat} (hq : l[n]? = some q) :
    w.cell? ⟨g, o + n * 3, none⟩ = some (.int .i64 q.pod) ∧ w.cell? ⟨g, o + n * 3 + 1, none⟩ = some (.int .i64 q.age) ∧ w.cell? ⟨g, o + n * 3 + 2, none⟩ = some (.int .i64 q.load) := by
  have hn : n < l.length := (List.getElem?_eq_some_iff.1 hq).1
  have h0 := h.cellAt (n * 3) (by omega)
  have h1 := h.cellAt (n * 3 + 1) (by omega)
  have h2 := h.cellAt (n * 3 + 2) (by omega)
  rw [cells_at _ _ _ _ hq (by omega)] at h1 h2
  rw [show n * 3 = n * 3 + 0 from rfl, cells_at _ _ _ _ hq (by omega)] at h0
  exact ⟨h0, h1, h2⟩

/-- All loads together. -/
def sum (l : List Stat) : Int := (l.map Stat.load).foldl (· + ·) 0
theorem sum_snoc (l : List Stat) (q : Stat) : sum (l ++ [q]) = sum l + q.load := by simp [sum]
/-- Stats that may be, of small loads. -/
def Fine (l : List Stat) : Prop := ∀ s, s ∈ l → 0 ≤ s.pod ∧ 0 ≤ s.age ∧ 0 ≤ s.load ∧ s.load ≤ 1000000
theorem sum_bd (l : List Stat) (h : Fine l) : 0 ≤ sum l ∧ sum l ≤ l.length * 1000000 := by
  have : ∀ (l : List Stat) (a : Int), (∀ s, s ∈ l → 0 ≤ s.load ∧ s.load ≤ 1000000) → a ≤ (l.map Stat.load).foldl (· + ·) a ∧ (l.map Stat.load).foldl (· + ·) a ≤ a + l.length * 1000000 := by
    intro l
    induction l with
    | nil => intro a _; simp
    | cons s l ih =>
      intro a h
      have h1 := h s (by simp)
      have h2 := ih (a + s.load) (fun x hx => h x (by simp [hx]))
      simp only [List.map_cons, List.foldl_cons, List.length_cons]
      omega
  have h2 := this l 0 (fun s hs => ⟨(h s hs).2.2.1, (h s hs).2.2.2⟩)
  unfold sum
  omega

set_option maxHeartbeats 1000000 in
theorem may_yes (p a l : Int) (w : World) (p0 : 0 ≤ p) (a0 : 0 ≤ a) (l0 : 0 ≤ l) : Calls Tryz.prog 193 #[.iface 161 (.agg #[.int .i64 p, .int .i64 a, .int .i64 l]), .int .i64 0] w fun e w' => e = .returned (.bool true) ∧ Chg No w w' := by
  have k1 : decide (0 ≤ p) = true := decide_eq_true p0
  have k2 : decide (0 ≤ a) = true := decide_eq_true a0
  have k3 : decide (0 ≤ l) = true := decide_eq_true l0
  go_enter Tryz.func193, Tryz.ntmps193
  go_wp2
  go_ret
  exact ⟨rfl, (Chg.refl No w).alloc _⟩

set_option maxHeartbeats 2000000 in
theorem total_any (w : World) (S : Nat → Prop) (v : Value) (l : List Stat) (own : Own w S 161 3 v l.length (cellsOf l)) (hn : l.length ≤ 1000) (fine : Fine l) :
    Calls Tryz.prog 162 #[v, .int .i64 0] w fun e w' => e = .returned (.tuple #[.int .i64 (sum l), .int .i64 l.length, .int .i64 0]) ∧ Chg No w w' := by
  obtain ⟨va, cap, rfl⟩ := own.sl
  have HO := Lib.hid own
  have HF := Lib.hid fine
  clear own fine
  go_enter Tryz.func162, Tryz.ntmps162
  go_wp2_with fail
  go_loopw [7, 8, 9, 16] (fun s k c i wr => ∃ n : Nat, n ≤ l.length ∧ i = .int .i64 n ∧ k = .int .i64 n ∧ c = .int .i64 0 ∧ s = .int .i64 (sum (l.take n)) ∧ Chg No w wr) (fun _ _ _ i _ => l.length - (intOf i).toNat)
  case atStart => exact ⟨0, Nat.zero_le _, rfl, rfl, rfl, rfl, Chg.refl _ _⟩
  case round =>
    obtain ⟨n, hk, rfl, rfl, rfl, rfl, hc⟩ := hrel
    by_cases hlt : n < l.length
    · obtain ⟨g, o, rfl, hS, hg, hcap, hmax⟩ := HO.out.some_ (by omega)
      obtain ⟨q, hq⟩ : ∃ q, l[n]? = some q := ⟨l[n], List.getElem?_eq_getElem hlt⟩
      obtain ⟨b0, b1, b2⟩ := stats_cells (HO.out.kept hc) hq
      obtain ⟨q0, q1, q2, q3⟩ := HF.out q (List.mem_of_getElem? hq)
      have hT : l.take (n + 1) = l.take n ++ [q] := by rw [List.take_add_one, hq]; rfl
      have HN : Hid (sum (l.take (n + 1)) = sum (l.take n) + q.load) := by show _ = _; rw [hT, sum_snoc]
      obtain ⟨s0, s1⟩ := sum_bd (l.take n) (fun s hs => HF.out s (List.mem_of_mem_take hs))
      rw [List.length_take, Nat.min_eq_left (by omega)] at s1
      have HC := Lib.hid (hc.alloc (.cells #[.int .i64 q.pod, .int .i64 q.age, .int .i64 q.load] 161))
      have HB := Lib.hid (Blk.new wr #[.int .i64 q.pod, .int .i64 q.age, .int .i64 q.load] 161)
      have s2 : sum (l.take n) ≤ 1000000000 := by omega
      clear hmax hS hc hq hT s1
      generalize sum (l.take n) = m at *
      go_wp2_with fail
      refine (may_yes q.pod q.age q.load _ q0 q1 q2).mono ?_
      rintro e w2 ⟨rfl, hc⟩
      have d2 : w2.cell? ⟨wr.heap.size, 2, none⟩ = some (.int .i64 q.load) := Blk.cell (HB.out.kept hc) 2
      have HC2 := Lib.hid (HC.out.trans hc)
      clear hc
      go_wp2_with (go_at_call 93; refine (add_nn m q.load _ s0 q2 (by omega)).mono ?_; rintro e w' ⟨rfl, rfl⟩)
      go_roundw
      case rel => exact ⟨n + 1, by omega, by go_num, by go_num, rfl, by rw [HN.out], HC2.out⟩
      case measure => simp [intOf]; omega
    · obtain rfl : n = l.length := by omega
      rw [List.take_length]
      go_wp2
      go_ret3
      exact ⟨rfl, hc⟩

set_option maxHeartbeats 2000000 in
theorem old_any (w : World) (S : Nat → Prop) (v : Value) (l : List Stat) (own : Own w S 161 3 v l.length (cellsOf l)) (hn : l.length ≤ 1000) (fine : Fine l) :
    Calls Tryz.prog 131 #[v, .int .i64 0] w fun e w' => e = .returned (.tuple #[.int .i64 (sum l), .int .i64 l.length, .int .i64 0]) ∧ Chg No w w' := by
  have HO := Lib.hid own
  have HF := Lib.hid fine
  clear own fine
  by_cases h0 : l.length = 0
  · have k : (((l.length : Nat) : Int) == 0) = true := by rw [h0]; rfl
    clear h0
    go_enter Tryz.func131, Tryz.ntmps131
    go_wp2_with fail
    refine (total_any w S v l HO.out hn HF.out).mono ?_
    rintro e w1 ⟨rfl, hc⟩
    have HO1 := Lib.hid (HO.out.kept hc)
    have HC := Lib.hid hc
    clear hc
    go_wp2_with fail
    refine (total_any w1 S v l HO1.out hn HF.out).mono ?_
    rintro e w2 ⟨rfl, hc⟩
    have HC2 := Lib.hid (HC.out.trans hc)
    clear hc
    go_wp2
    go_ret3
    exact ⟨rfl, HC2.out⟩
  · have k : (((l.length : Nat) : Int) == 0) = false := beq_eq_false_iff_ne.2 (by omega)
    go_enter Tryz.func131, Tryz.ntmps131
    go_wp2_with fail
    refine (total_any w S v l HO.out hn HF.out).mono ?_
    rintro e w1 ⟨rfl, hc⟩
    have HC := Lib.hid hc
    clear hc
    go_wp2
    go_ret3
    exact ⟨rfl, HC.out⟩

end Go.Proofs.YtdgphoemjeakaaaGreatDoor.S

/-! Packages stat (Spread), sample: what their functions give. -/
namespace Go.Proofs.YtdgphoemjeakaaaGreatDoor.S
open Go.RowKit Go.Proofs.YtdgphoemjeakaaaGreatDoor.K Go.Proofs.YtdgphoemjeakaaaGreatDoor.P
set_option maxRecDepth 100000

theorem and_mask {x : Int} (h0 : 0 ≤ x) (h1 : x < 4294967296) : bits .and .u64 x 4294967295 = x := by
  have e1 : (BitVec.ofInt 64 x).toNat = x.toNat := by rw [BitVec.toNat_ofInt]; omega
  have e2 : (BitVec.ofInt 64 4294967295).toNat = 2 ^ 32 - 1 := by decide +kernel
  have l : (BitVec.ofInt 64 x &&& BitVec.ofInt 64 4294967295).toNat = x.toNat := by
    rw [BitVec.toNat_and, e1, e2, Nat.and_two_pow_sub_one_eq_mod, Nat.mod_eq_of_lt (by omega)]
  show IntKind.u64.wrap ((BitVec.ofInt 64 x &&& BitVec.ofInt 64 4294967295).toNat : Int) = _
  rw [l, IntKind.wrap_u64]
  omega

set_option maxHeartbeats 4000000 in
theorem mul64_small (x y : Int) (w : World) (x0 : 0 ≤ x) (x1 : x < 4294967296) (y0 : 0 ≤ y) (y1 : y < 1073741824) : Calls Tryz.prog 132 #[.int .u64 x, .int .u64 y] w fun e w' => e = .returned (.tuple #[.int .u64 0, .int .u64 (x * y)]) ∧ w = w' := by
  have e1 := and_mask x0 x1
  have e2 := and_mask y0 (by omega)
  obtain ⟨m, hm⟩ : ∃ m, x * y = m := ⟨_, rfl⟩
  have m0 : 0 ≤ m := by rw [← hm]; exact Int.mul_nonneg x0 y0
  have m1 : m < 4611686018427387904 := by
    rw [← hm]
    have h1 : x * y ≤ x * 1073741824 := Int.mul_le_mul_of_nonneg_left (by omega) x0
    omega
  have q1 : IntKind.u64.wrap (x * y) = m := by rw [hm, IntKind.wrap_u64]; omega
  have d1 : x / 4294967296 = 0 := by omega
  have d2 : y / 4294967296 = 0 := by omega
  have e3 := and_mask (x := m / 4294967296) (by omega) (by omega)
  have d3 : m / 4294967296 / 4294967296 = 0 := by omega
  have HM := Lib.hid hm
  clear hm
  go_enter Tryz.func132, Tryz.ntmps132
  go_wp2
  go_ret2
  exact ⟨by rw [HM.out]; rfl, rfl⟩

/-- What all ready pods would have to do. -/
def spread (l : List Stat) (ready : Int) : Int := if l.length = 0 then 0 else sum l * ready / l.length

set_option maxHeartbeats 2000000 in
theorem spread_any (w : World) (S : Nat → Prop) (v : Value) (l : List Stat) (own : Own w S 161 3 v l.length (cellsOf l)) (hn : l.length ≤ 1000) (fine : Fine l) (ready : Int) (r0 : 0 ≤ ready) (r1 : ready ≤ 1000) :
    Calls Tryz.prog 92 #[v, .int .i64 0, .int .i64 ready] w fun e w' => ∃ c, e = .returned (.tuple #[.int .i64 (spread l ready), .int .i64 c]) ∧ Chg No w w' := by
  have HO := Lib.hid own
  obtain ⟨s0, s1⟩ := sum_bd l fine
  have HF := Lib.hid fine
  clear own fine
  by_cases h0 : l.length = 0
  · have k : (((l.length : Nat) : Int) == 0) = true := by rw [h0]; rfl
    have HE : Hid (spread l ready = 0) := if_pos h0
    clear h0
    go_enter Tryz.func92, Tryz.ntmps92
    go_wp2_with fail
    refine (old_any w S v l HO.out hn HF.out).mono ?_
    rintro e w1 ⟨rfl, hc⟩
    have HC := Lib.hid hc
    clear hc
    go_wp2
    go_ret2
    exact ⟨_, by rw [HE.out]; rfl, HC.out⟩
  · have k : (((l.length : Nat) : Int) == 0) = false := beq_eq_false_iff_ne.2 (by omega)
    have k2 : decide (ready < 0) = false := decide_eq_false (by omega)
    have HE : Hid (spread l ready = sum l * ready / l.length) := if_neg h0
    have hl0 : ¬ ((l.length : Nat) : Int) = 0 := by omega
    have hs : sum l ≤ 1000000000 := by omega
    have HM := Lib.hid fun w => mul64_small (sum l) ready w s0 (by omega) r0 (by omega)
    have HT := Lib.hid fun w W' (h : Own w S 161 3 v l.length (cellsOf l)) (_ : W' = w) => old_any w S v l h hn HF.out
    clear s1
    generalize sum l = s at *
    obtain ⟨m, hm⟩ : ∃ m, s * ready = m := ⟨_, rfl⟩
    have m0 : 0 ≤ m := by rw [← hm]; exact Int.mul_nonneg s0 r0
    have m1 : m ≤ 1000000000000 := by
      rw [← hm]
      have h1 : s * ready ≤ s * 1000 := Int.mul_le_mul_of_nonneg_left r1 s0
      omega
    rw [hm] at HM HE
    clear hm h0
    obtain ⟨n, hln⟩ : ∃ n : Nat, l.length = n := ⟨_, rfl⟩
    have q1 : IntKind.i64.wrap (m.tdiv (l.length : Int)) = m / l.length := by
      rw [Int.tdiv_eq_ediv_of_nonneg m0, IntKind.wrap_i64]
      have := Int.ediv_nonneg (a := m) (b := l.length) m0 (by omega)
      have := Int.ediv_le_self (a := m) l.length m0
      omega
    clear hln
    go_enter Tryz.func92, Tryz.ntmps92
    go_wp2_with fail
    refine (HT.out w w HO.out rfl).mono ?_
    rintro e w1 ⟨rfl, hc⟩
    have HC := Lib.hid hc
    clear hc
    go_wp2_with fail
    refine (HM.out _).mono ?_
    rintro e w' ⟨rfl, rfl⟩
    go_wp2
    go_ret2
    exact ⟨_, by rw [HE.out]; rfl, HC.out⟩

end Go.Proofs.YtdgphoemjeakaaaGreatDoor.S

/-! Package sample: what its functions give. -/
namespace Go.Proofs.YtdgphoemjeakaaaGreatDoor.S
open Go.RowKit Go.Proofs.YtdgphoemjeakaaaGreatDoor.K Go.Proofs.YtdgphoemjeakaaaGreatDoor.P
set_option maxRecDepth 100000

/-- How many of so many pods are asked. -/
def size (n : Nat) : Nat := if n ≤ 3 then n else max 3 ((17 * n + 12) / (n + 13))
theorem size_bd (n : Nat) : size n ≤ n ∧ size n ≤ 17 := by
  unfold size
  split
  · omega
  · have h1 : (17 * n + 12) / (n + 13) ≤ 16 := by
      have : (17 * n + 12) / (n + 13) < 17 := (Nat.div_lt_iff_lt_mul (by omega)).2 (by omega)
      omega
    have h2 : (17 * n + 12) / (n + 13) ≤ n := by
      have : (17 * n + 12) / (n + 13) < n + 1 := (Nat.div_lt_iff_lt_mul (by omega)).2 (by
        have h5 : n * n ≥ 4 * n := Nat.mul_le_mul_right n (by omega)
        rw [Nat.add_mul, Nat.mul_add]
        omega)
      omega
    omega

set_option maxHeartbeats 1000000 in
theorem size_any (n : Nat) (w : World) (hn : n ≤ 200) : Calls Tryz.prog 130 #[.int .i64 n] w fun e w' => e = .returned (.int .i64 (size n)) ∧ w = w' := by
  by_cases h0 : n < 1
  · have e : size n = 0 := by unfold size; rw [if_pos (by omega)]; omega
    have k : decide ((n : Int) < 1) = true := decide_eq_true (by omega)
    rw [e]
    clear e
    go_enter Tryz.func130, Tryz.ntmps130
    go_wp2
    go_ret
    exact ⟨rfl, rfl⟩
  · have k : decide ((n : Int) < 1) = false := decide_eq_false (by omega)
    by_cases h3 : n ≤ 3
    · have e : size n = n := by unfold size; rw [if_pos h3]
      have k2 : decide ((n : Int) ≤ 3) = true := decide_eq_true (by omega)
      rw [e]
      clear e
      go_enter Tryz.func130, Tryz.ntmps130
      go_wp2
      go_ret
      exact ⟨rfl, rfl⟩
    · have e : size n = max 3 ((17 * n + 12) / (n + 13)) := by unfold size; rw [if_neg h3]
      have k2 : decide ((n : Int) ≤ 3) = false := decide_eq_false (by omega)
      have k3 : decide ((208 : Int) < n) = false := decide_eq_false (by omega)
      obtain ⟨q, hq⟩ : ∃ q, (17 * n + 12) / (n + 13) = q := ⟨_, rfl⟩
      have q1 : q ≤ 200 * 17 + 12 := by rw [← hq]; exact Nat.le_trans (Nat.div_le_self _ _) (by omega)
      have hz : ¬ (n : Int) + 13 = 0 := by omega
      have hd : ((17 * (n : Int) + 12).tdiv ((n : Int) + 13)) = q := by
        rw [Int.tdiv_eq_ediv_of_nonneg (by omega), ← hq]
        simp
      have hw : IntKind.i64.wrap ((16 * (n : Int) + n + 13 - 1).tdiv ((n : Int) + 13)) = q := by
        rw [show 16 * (n : Int) + n + 13 - 1 = 17 * n + 12 by omega, hd, IntKind.wrap_i64]
        omega
      rw [e, hq]
      clear e hq hd
      go_enter Tryz.func130, Tryz.ntmps130
      go_wp2
      all_goals
        go_ret
        exact ⟨P.ret_int (by omega), rfl⟩

/-- Who is asked as the i-th. -/
def whichAt (ids : List Int) (r : Int) (i : Nat) : Int := ids.getD (((r % ids.length) * (size ids.length) + i) % ids.length).toNat 0
/-- Who is asked. -/
def which (ids : List Int) (r : Int) : List Int := (List.range (size ids.length)).map (whichAt ids r)

set_option maxHeartbeats 2000000 in
theorem which_any (w : World) (S : Nat → Prop) (v : Value) (ids : List Int) (own : Own w S 3 1 v ids.length (ids.map (Value.int .i64))) (hn : ids.length ≤ 200) (r : Int) (r0 : 0 ≤ r) (r1 : r ≤ 1099511627776) :
    Calls Tryz.prog 91 #[v, .int .i64 0, .int .i64 r] w fun e w' => ∃ v', e = .returned v' ∧ Own w' (New w) 3 1 v' (which ids r).length ((which ids r).map (Value.int .i64)) ∧ Chg No w w' := by
  obtain ⟨i0, hi, hz0, hz1, hz2⟩ := info_parts (P := Tryz.prog) (e := 3) (z := .int .i64 0) (size := 1) (bytes := 8) (by kernel_rfl)
  obtain ⟨va, cap, rfl⟩ := own.sl
  have HO := Lib.hid own
  clear own
  obtain ⟨s0, s1⟩ := size_bd ids.length
  have HZ := Lib.hid fun w => size_any ids.length w hn
  have HWL : Hid ((which ids r).length = size ids.length) := by show _ = _; simp [which]
  have HWT : Hid (∀ n, n < size ids.length → (which ids r).take (n + 1) = (which ids r).take n ++ [whichAt ids r n]) := by
    intro n hn
    rw [List.take_add_one]
    congr 1
    simp [which, hn]
  have HWA : Hid (∀ n, whichAt ids r n = ids.getD (((r % ids.length) * (size ids.length) + n) % ids.length).toNat 0) := fun n => rfl
  generalize hks : size ids.length = k at *
  clear hks
  go_enter Tryz.func91, Tryz.ntmps91
  go_wp2_with (go_at_call 130; refine (HZ.out _).mono ?_; rintro e w' ⟨rfl, rfl⟩)
  go_loopw [9, 27] (fun o i wr => ∃ n : Nat, n ≤ k ∧ i = .int .i64 n ∧ Own wr (New w) 3 1 o n (((which ids r).take n).map (Value.int .i64)) ∧ Chg No w wr) (fun _ i _ => k - (intOf i).toNat)
  case atStart => exact ⟨0, Nat.zero_le _, rfl, Own.nil _ _ _ _, Chg.refl _ _⟩
  case round =>
    obtain ⟨n, hk, rfl, ho, hc⟩ := hrel
    by_cases hlt : n < k
    · obtain ⟨g, o, rfl, hS, hg, hcap, hmax⟩ := HO.out.some_ (by omega)
      obtain ⟨a, ha⟩ : ∃ a, r % (ids.length : Int) = a := ⟨_, rfl⟩
      have a0 : 0 ≤ a := by rw [← ha]; exact Int.emod_nonneg _ (by omega)
      have a1 : a < ids.length := by rw [← ha]; exact Int.emod_lt_of_pos _ (by omega)
      obtain ⟨p, hp⟩ : ∃ p, a * (k : Int) = p := ⟨_, rfl⟩
      have p0 : 0 ≤ p := by rw [← hp]; exact Int.mul_nonneg a0 (by omega)
      have p1 : p ≤ 4000 := by
        rw [← hp]
        have h1 : a * (k : Int) ≤ 200 * k := Int.mul_le_mul_of_nonneg_right (by omega) (by omega)
        omega
      obtain ⟨j, hj⟩ : ∃ j : Nat, (p + (n : Int)) % (ids.length : Int) = j := ⟨((p + (n : Int)) % (ids.length : Int)).toNat, (Int.toNat_of_nonneg (Int.emod_nonneg _ (by omega))).symm⟩
      have j1 : j < ids.length := by
        have := Int.emod_lt_of_pos (p + (n : Int)) (b := (ids.length : Int)) (by omega)
        omega
      have hx : whichAt ids r n = ids[j] := by
        rw [HWA.out, ha, hp, hj, Int.toNat_natCast]
        simp [List.getD, j1]
      have hc0 : wr.cell? ⟨g, o + j, none⟩ = some (.int .i64 (whichAt ids r n)) := by
        rw [(HO.out.kept hc).cellAt j (by omega), List.getElem?_map, List.getElem?_eq_getElem j1, hx]
        rfl
      have HT := Lib.hid (HWT.out n hlt)
      generalize whichAt ids r n = x at *
      have hz : ¬ (ids.length : Int) = 0 := by omega
      have e2 : wrap64 (a * (k : Int)) = p := by rw [hp]; unfold wrap64; omega
      have e3 : (p + (n : Int)).tmod (ids.length : Int) = j := by rw [Int.tmod_eq_emod_of_nonneg (by omega), hj]
      have HO2 := Lib.hid ho
      have HC := Lib.hid hc
      clear hp hx ho hc hS hmax
      go_wp2_with (at_builtin; refine wpList_app _ rfl _ _ 76 rfl (New w) 3 i0 _ 1 8 Tryz.underlying76 hi hz0 hz1 hz2 rfl _ _ _ rfl (HO2.out.alloc _) ⟨wr.heap.size, 0, none⟩ 1 1 [.int .i64 x] rfl (by decide) rfl (built_at (by simp)) (by simp [Value.oneCell']) (by simp only [maxLen]; omega) (by omega) ?_; intro g2 o2 c2 w' ho' hc')
      go_roundw
      case rel =>
        obtain ⟨h1, h2⟩ := fresh_app HC.out ho' hc'
        exact ⟨n + 1, by omega, by go_num, by rw [HT.out, List.map_append]; exact h1, h2⟩
      case measure => simp [intOf]; omega
    · obtain rfl : n = k := by omega
      rw [List.take_of_length_le (by rw [HWL.out]; exact Nat.le_refl _)] at ho
      go_wp2
      go_ret
      exact ⟨_, rfl, by rw [HWL.out]; exact ho, hc⟩

end Go.Proofs.YtdgphoemjeakaaaGreatDoor.S

/-! Package ring: New, forget. -/
namespace Go.Proofs.YtdgphoemjeakaaaGreatDoor.R
open Go.RowKit Go.Shelf Go.Proofs.YtdgphoemjeakaaaGreatDoor.K
set_option maxRecDepth 100000

/-- A bucket: its time, its sum (of one value). -/
abbrev Bk := Int × Int
def bcells (b : Bk) : Array Value := #[.int .i64 b.1, .int .i64 b.2, .int .i64 1, .bool false]
def bref (x : Nat × Bk) : Value := .pointer (some ⟨x.1, 0, none⟩)
/-- A ring, with the places of its buckets. -/
structure RingV (w : World) (S : Nat → Prop) (p : Nat) (v : Value) (es : List (Nat × Bk)) (window n newest : Int) : Prop where
  bd : ∀ k, S k → k < w.heap.size
  own : S p
  blk : Blk w p #[v, .int .i64 window, .int .i64 1, .int .i64 n, .int .i64 newest, .bool false] 180
  row : Own w S 20 1 v es.length (es.map fun x => Value.iface 245 (bref x))
  nodup : (es.map Prod.fst).Nodup
  bks : ∀ x, x ∈ es → S x.1 ∧ Blk w x.1 (bcells x.2) 244
def Ring (w : World) (S : Nat → Prop) (p : Nat) (bs : List Bk) (window n newest : Int) : Prop := ∃ v es, RingV w S p v es window n newest ∧ es.map Prod.snd = bs

section
variable {w w' : World} {S T : Nat → Prop} {p : Nat} {v : Value} {es : List (Nat × Bk)} {bs : List Bk} {window n newest : Int}
theorem RingV.chg (h : RingV w S p v es window n newest) (c : Chg T w w') (hd : ∀ k, S k → T k → False) : RingV w' S p v es window n newest :=
  ⟨fun k hk => Nat.lt_of_lt_of_le (h.bd k hk) c.size, h.own, h.blk.chg c (hd p h.own), h.row.chg c hd, h.nodup, fun x hx => ⟨(h.bks x hx).1, (h.bks x hx).2.chg c (hd x.1 (h.bks x hx).1)⟩⟩
theorem RingV.kept (h : RingV w S p v es window n newest) (c : Chg No w w') : RingV w' S p v es window n newest := h.chg c fun _ _ h => h
theorem RingV.mono (h : RingV w S p v es window n newest) (hs : ∀ k, k < w.heap.size → S k → T k) (hb : ∀ k, T k → k < w.heap.size) : RingV w T p v es window n newest :=
  ⟨hb, hs p h.blk.lt h.own, h.blk, h.row.mono hs, h.nodup, fun x hx => ⟨hs _ (h.bks x hx).2.lt (h.bks x hx).1, (h.bks x hx).2⟩⟩
theorem Ring.chg (h : Ring w S p bs window n newest) (c : Chg T w w') (hd : ∀ k, S k → T k → False) : Ring w' S p bs window n newest := by
  obtain ⟨v, es, h, he⟩ := h
  exact ⟨v, es, h.chg c hd, he⟩
theorem Ring.kept (h : Ring w S p bs window n newest) (c : Chg No w w') : Ring w' S p bs window n newest := h.chg c fun _ _ h => h
theorem Ring.mono (h : Ring w S p bs window n newest) (hs : ∀ k, k < w.heap.size → S k → T k) (hb : ∀ k, T k → k < w.heap.size) : Ring w T p bs window n newest := by
  obtain ⟨v, es, h, he⟩ := h
  exact ⟨v, es, h.mono hs hb, he⟩
/-- The newest is another one. -/
theorem RingV.setNewest (h : RingV w S p v es window n newest) (t : Int) : RingV (w.setCell ⟨p, 4, none⟩ (.int .i64 t)) S p v es window n t :=
  ⟨by simpa [World.setCell] using h.bd, h.own, h.blk.set 4 _, h.row.other h.blk (by decide) _, h.nodup, fun x hx => ⟨(h.bks x hx).1, (h.bks x hx).2.other ((h.bks x hx).2.ne h.blk (by decide)) _⟩⟩
/-- Some buckets are gone. -/
theorem RingV.filter (h : RingV w S p v es window n newest) {v' : Value} (q : Nat × Bk → Bool) (own : Own w' (Arr w S) 20 1 v' (G.kept q es).length ((G.kept q es).map fun x => Value.iface 245 (bref x))) (c : Chg (Arr w S) w w') : RingV (w'.setCell ⟨p, 0, none⟩ v') S p v' (G.kept q es) window n newest := by
  have hb := h.blk.chg c (h.blk.no_arr (by decide))
  refine ⟨fun k hk => by have := h.bd k hk; have := c.size; simp [World.setCell]; omega, h.own, hb.set 0 v', (own.mono fun _ _ h => h.1).other hb (by decide) v', ?_, fun x hx => ?_⟩
  · exact h.nodup.sublist ((List.filter_sublist).map _)
  · obtain ⟨h1, h2⟩ := h.bks x (List.mem_filter.1 hx).1
    exact ⟨h1, (h2.chg c (h2.no_arr (by decide))).other (h2.ne h.blk (by decide)) v'⟩
end

set_option maxHeartbeats 1000000 in
theorem old_pred (w : World) (b B p : Nat) (at_ newest n : Int) (hb : w.cell? ⟨b, 0, none⟩ = some (.int .i64 at_)) (hB : w.cell? ⟨B, 0, none⟩ = some (.pointer (some ⟨p, 0, none⟩))) (h3 : w.cell? ⟨p, 3, none⟩ = some (.int .i64 n)) (h4 : w.cell? ⟨p, 4, none⟩ = some (.int .i64 newest))
    (a0 : 0 ≤ at_) (a1 : at_ ≤ 1099511627776) (n0 : -1 ≤ newest) (n1 : newest ≤ 1099511627776) :
    Calls Tryz.prog 192 #[.iface 245 (.pointer (some ⟨b, 0, none⟩)), .pointer (some ⟨B, 0, none⟩)] w fun e w' => e = .returned (.bool (decide (n ≤ newest - at_))) ∧ Chg No w w' := by
  go_enter Tryz.func192, Tryz.ntmps192
  go_wp2
  go_quiet (fail)
  go_wp2
  go_ret
  exact ⟨rfl, (Chg.refl _ _).drewN _⟩

/-- Is this bucket too far behind? -/
def old (newest n : Int) (x : Nat × Bk) : Bool := decide (n ≤ newest - x.2.1)

set_option maxHeartbeats 2000000 in
theorem forget_any (w : World) (S : Nat → Prop) (p : Nat) (v : Value) (es : List (Nat × Bk)) (window n newest : Int) (h : RingV w S p v es window n newest) (hn : es.length ≤ 1099511627776) (hat : ∀ x, x ∈ es → 0 ≤ x.2.1 ∧ x.2.1 ≤ 1099511627776) (n0 : -1 ≤ newest) (n1 : newest ≤ 1099511627776) :
    Calls Tryz.prog 160 #[.pointer (some ⟨p, 0, none⟩)] w fun e w' => e = .returned (.tuple #[]) ∧ (∃ v', RingV w' S p v' (G.kept (old newest n) es) window n newest) ∧ Chg S w w' := by
  have eg : ∀ args w, (callFunc 192 args).run Tryz.prog w = .ok (.enter 192 args) w := enters_of Tryz.func192 (by kernel_rfl) rfl
  have HD : Hid (∀ W, RingV W S p v es window n newest → Blk W w.heap.size #[.pointer (some ⟨p, 0, none⟩)] 128 → Calls Tryz.prog 140 #[v, .func (.func 192) #[] #[.pointer (some ⟨w.heap.size, 0, none⟩)]] W fun e w' => ∃ v', e = .returned v' ∧ Own w' (Arr W S) 20 1 v' (G.kept (old newest n) es).length ((G.kept (old newest n) es).map fun x => Value.iface 245 (bref x)) ∧ Chg (Arr W S) W w') := by
    intro W hW hB
    refine G.delete_func 245 bref (old newest n) es 192 #[.pointer (some ⟨w.heap.size, 0, none⟩)] eg W (Arr W S) v hW.row.arr hn fun W' x hx hc => ?_
    obtain ⟨h1, h2⟩ := hW.bks x hx
    have b1 := h2.chg hc (h2.no_arr (by decide))
    have b2 := hB.chg hc (hB.no_arr (by decide))
    have b3 := hW.blk.chg hc (hW.blk.no_arr (by decide))
    exact old_pred W' x.1 w.heap.size p x.2.1 newest n (Blk.cell b1 0) (Blk.cell b2 0) (Blk.cell b3 3) (Blk.cell b3 4) (hat x hx).1 (hat x hx).2 n0 n1
  have H1 := Lib.hid (h.kept ((Chg.refl No w).alloc (.cells #[.pointer (some ⟨p, 0, none⟩)] 128)))
  have hB1 : Blk (w.alloc (.cells #[.pointer (some ⟨p, 0, none⟩)] 128)) w.heap.size #[.pointer (some ⟨p, 0, none⟩)] 128 := Blk.new _ _ _
  have hne : w.heap.size ≠ p := by have := h.blk.lt; omega
  have HC : Hid (Chg S w (w.alloc (.cells #[.pointer (some ⟨p, 0, none⟩)] 128))) := (Chg.refl S w).alloc _
  have HS := Lib.hid h.own
  have c0 : (w.alloc (.cells #[.pointer (some ⟨p, 0, none⟩)] 128)).cell? ⟨p, 0, none⟩ = some v := Blk.cell H1.out.blk 0
  clear h hat
  go_enter Tryz.func160, Tryz.ntmps160
  go_wp2_with fail
  generalize w.alloc (.cells #[.pointer (some ⟨p, 0, none⟩)] 128) = w1 at *
  generalize w.heap.size = B at *
  have cB : w1.cell? ⟨B, 0, none⟩ = some (.pointer (some ⟨p, 0, none⟩)) := Blk.cell hB1 0
  have HB1 := Lib.hid hB1
  clear hB1
  obtain ⟨va, cap, hv⟩ := H1.out.row.sl
  subst hv
  have HD1 := Lib.hid (H1.out.kept (Chg.refl No w1).drew)
  have HB2 : Hid (Blk w1.drew B #[.pointer (some ⟨p, 0, none⟩)] 128) := HB1.out
  go_region_with (go_at_call 140; refine (HD.out _ HD1.out HB2.out).mono ?_; rintro e w2 ⟨v2, rfl, ho, hc⟩; have bp := HD1.out.blk.chg hc (HD1.out.blk.no_arr (by decide)); have bB := HB2.out.chg hc (HB2.out.no_arr (by decide)); have cB2 : w2.cell? ⟨B, 0, none⟩ = some (.pointer (some ⟨p, 0, none⟩)) := Blk.cell bB 0; have c02 : w2.cell? ⟨p, 0, none⟩ = some (.slice va es.length cap) := Blk.cell bp 0; have f02 := Blk.free bp 0; obtain ⟨va2, cap2, hv2⟩ := ho.sl; subst hv2; have HO := Lib.hid ho; have HC2 := Lib.hid hc; clear ho hc bp bB)
  all_goals
    go_wp2
    go_end0
    exact ⟨rfl, ⟨_, HD1.out.filter _ HO.out HC2.out⟩, ((HC.out.drew).trans (HC2.out.mono fun _ _ h => h.1)).set (a := ⟨p, 0, none⟩) (fun _ => HS.out) _⟩

end Go.Proofs.YtdgphoemjeakaaaGreatDoor.R
