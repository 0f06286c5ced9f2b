/- Whole numbers from 0 to 2^53 as float64: they are exact, and are compared, added, taken away and cut to integers exactly; what whole part a raw float64 has between 0 and 2^40. What the functions of package load give, as functions on whole numbers and on the bits of the parts. What pick.Least gives. slices.Clone, pick.Least by numbers. Package life: Ripe, at, Enter, Leave. Package life: at, Enter, Leave. -/
import Derived.Laws.ComplexArith
import Derived.Test.YtdgphoemjeakaaaGreatDoorR01
import Derived.BigQuiet
import Derived.Test.YtdgphoemjeakaaaGreatDoorR10
import Derived.Test.YtdgphoemjeakaaaGreatDoorR05
namespace Go.Proofs.YtdgphoemjeakaaaGreatDoor.Fl
open Go
theorem log2_scaled {n : Nat} (h : n ≠ 0) (M : Nat) : (n * 2 ^ M).log2 = n.log2 + M := by
  have h2 : n * 2 ^ M ≠ 0 := Nat.mul_ne_zero h (Nat.ne_of_gt (Nat.two_pow_pos M))
  rw [Nat.log2_eq_iff h2]
  have a := Nat.log2_self_le h
  have b := Nat.lt_log2_self (n := n)
  constructor
  · rw [Nat.pow_add]; exact Nat.mul_le_mul_right _ a
  · rw [show n.log2 + M + 1 = (n.log2 + 1) + M from by omega, Nat.pow_add]
    exact Nat.mul_lt_mul_of_pos_right b (Nat.two_pow_pos M)
theorem cut_exact (way : Ieee.Toward) (neg : Bool) (n drop : Nat) : way.cut neg (n * 2 ^ drop) drop = n := by
  unfold Ieee.Toward.cut
  by_cases hn : n = 0
  · subst hn
    have hp : 0 < 1 <<< min drop (Nat.log2 0 + 2) := by rw [Nat.one_shiftLeft]; exact Nat.two_pow_pos _
    simp only [Nat.zero_mul, Nat.zero_div, Nat.zero_mod, Nat.mul_zero, Nat.zero_add]
    cases way <;> simp
  · have hl : min drop ((n * 2 ^ drop).log2 + 2) = drop := by rw [log2_scaled hn]; omega
    have hp : 0 < 2 ^ drop := Nat.two_pow_pos drop
    simp only [hl, Nat.one_shiftLeft, Nat.mul_mod_left, Nat.mul_div_cancel _ hp, Nat.mul_zero]
    have h0 : ¬ (2 ^ drop < 0) := by omega
    have h1 : (2 ^ drop == 0) = false := by simp
    cases way <;> simp
theorem cut_zero (neg : Bool) (x drop : Nat) : Ieee.Toward.zero.cut neg x drop = x / 2 ^ drop := by
  unfold Ieee.Toward.cut
  simp only [Nat.one_shiftLeft, Bool.toNat_false, Nat.add_zero]
  by_cases h : drop ≤ x.log2 + 2
  · rw [Nat.min_eq_left h]
  · rw [Nat.min_eq_right (by omega)]
    have b := Nat.lt_log2_self (n := x)
    have c : 2 ^ (x.log2 + 1) ≤ 2 ^ (x.log2 + 2) := Nat.pow_le_pow_right (by omega) (by omega)
    have d : 2 ^ (x.log2 + 1) ≤ 2 ^ drop := Nat.pow_le_pow_right (by omega) (by omega)
    rw [Nat.div_eq_of_lt (by omega), Nat.div_eq_of_lt (by omega)]
def canon (n : Nat) : Nat := if n = 0 then 0 else (n.log2 + 1022) * 2 ^ 52 + n * 2 ^ (52 - n.log2)
theorem log2_le {n : Nat} (h : n < 2 ^ 53) : n.log2 ≤ 52 := by
  by_cases hn : n = 0
  · subst hn; decide
  · have := (Nat.log2_lt hn).2 h; omega
theorem canon_lt {n : Nat} (hn : n ≠ 0) (h : n < 2 ^ 53) : 2 ^ 52 ≤ n * 2 ^ (52 - n.log2) ∧ n * 2 ^ (52 - n.log2) < 2 ^ 53 := by
  have hl := log2_le h
  have a := Nat.log2_self_le hn
  have b := Nat.lt_log2_self (n := n)
  have p := Nat.two_pow_pos (52 - n.log2)
  constructor
  · have := Nat.mul_le_mul_right (2 ^ (52 - n.log2)) a
    rwa [← Nat.pow_add, show n.log2 + (52 - n.log2) = 52 from by omega] at this
  · have := Nat.mul_lt_mul_of_pos_right b p
    rwa [← Nat.pow_add, show n.log2 + 1 + (52 - n.log2) = 53 from by omega] at this
theorem kept_scaled {n M : Nat} (h : n < 2 ^ 53) :
    Ieee.Toward.even.cut false ((n * 2 ^ M) <<< (-(M : Int) - ((n.log2 : Int) - 52)).toNat) (((n.log2 : Int) - 52) - -(M : Int)).toNat = n * 2 ^ (52 - n.log2) := by
  have hl := log2_le h
  by_cases hM : M ≤ 52 - n.log2
  · have e1 : (-(M : Int) - ((n.log2 : Int) - 52)).toNat = 52 - n.log2 - M := by omega
    have e2 : (((n.log2 : Int) - 52) - -(M : Int)).toNat = 0 := by omega
    rw [e1, e2, Nat.shiftLeft_eq, Nat.mul_assoc, ← Nat.pow_add, show M + (52 - n.log2 - M) = 52 - n.log2 from by omega]
    have := cut_exact .even false (n * 2 ^ (52 - n.log2)) 0
    simpa using this
  · have e1 : (-(M : Int) - ((n.log2 : Int) - 52)).toNat = 0 := by omega
    have e2 : (((n.log2 : Int) - 52) - -(M : Int)).toNat = M - (52 - n.log2) := by omega
    rw [e1, e2, Nat.shiftLeft_eq, Nat.pow_zero, Nat.mul_one]
    have e3 : n * 2 ^ M = n * 2 ^ (52 - n.log2) * 2 ^ (M - (52 - n.log2)) := by
      rw [Nat.mul_assoc, ← Nat.pow_add, show 52 - n.log2 + (M - (52 - n.log2)) = M from by omega]
    rw [e3, cut_exact]
theorem nearest_scaled {n : Nat} (M : Nat) (h : n < 2 ^ 53) : Ieee.double.nearest false (n * 2 ^ M) (-(M : Int)) = canon n := by
  by_cases hn : n = 0
  · subst hn
    simp [Ieee.Format.nearest, Ieee.Format.word, canon]
  · have hl := log2_le h
    have h2 : n * 2 ^ M ≠ 0 := Nat.mul_ne_zero hn (Nat.ne_of_gt (Nat.two_pow_pos M))
    have hc := canon_lt hn h
    unfold Ieee.Format.nearest canon
    rw [if_neg h2, if_neg hn, log2_scaled hn]
    have hfb : Ieee.double.fractionBits = 52 := rfl
    have hlp : Ieee.double.leastPlace = -1074 := by decide
    have hbi : Ieee.double.binade = 2 ^ 52 := rfl
    have hir : Ieee.double.infRung = 2047 * 2 ^ 52 := by decide
    have hmax : max (-(M : Int) + ((n.log2 + M : Nat) : Int) - (Ieee.double.fractionBits : Int)) Ieee.double.leastPlace = (n.log2 : Int) - 52 := by
      rw [hfb, hlp]; omega
    simp only [hmax]
    rw [kept_scaled h, hlp, hbi, hir]
    have e : (((n.log2 : Int) - 52) - -1074).toNat = n.log2 + 1022 := by omega
    rw [e]
    unfold Ieee.Format.word
    simp only [Bool.false_eq_true, if_false]
    rw [Nat.min_eq_left]
    omega
def Rep (b n : Nat) : Prop := ∃ k : Nat, Ieee.double.read b = .number false (n * 2 ^ k) (-(k : Int))
theorem rep_of {b n k m : Nat} (h : Ieee.double.read b = .number false m (-(k : Int))) (hm : m = n * 2 ^ k) : Rep b n := ⟨k, hm ▸ h⟩
theorem read_zero : Ieee.double.read 0 = .number false 0 (-1074) := by decide
theorem rep_nought {b k : Nat} (h : Ieee.double.read b = .number false 0 (-(k : Int))) : Rep b 0 := rep_of h (Nat.zero_mul _).symm
theorem rep_zero : Rep 0 0 := rep_nought (k := 1074) read_zero
theorem rep_canon {n : Nat} (h : n < 2 ^ 53) : Rep (canon n) n := by
  by_cases hn : n = 0
  · subst hn; exact rep_zero
  · have hl := log2_le h
    have hc := canon_lt hn h
    refine ⟨52 - n.log2, ?_⟩
    generalize hK : n * 2 ^ (52 - n.log2) = K at *
    have hcan : canon n = (n.log2 + 1022) * 2 ^ 52 + K := by unfold canon; rw [if_neg hn, hK]
    have hsw : Ieee.double.signWeight = 2 ^ 63 := by decide
    have hlp : Ieee.double.leastPlace = -1074 := by decide
    have hbi : Ieee.double.binade = 2 ^ 52 := rfl
    have hir : Ieee.double.infRung = 2047 * 2 ^ 52 := by decide
    unfold Ieee.Format.read
    rw [hsw, hlp, hbi, hir, hcan]
    have h1 : ((n.log2 + 1022) * 2 ^ 52 + K) / 2 ^ 63 % 2 = 0 := by omega
    have h2 : ((n.log2 + 1022) * 2 ^ 52 + K) % 2 ^ 63 = (n.log2 + 1022) * 2 ^ 52 + K := by omega
    have h3 : ((n.log2 + 1022) * 2 ^ 52 + K) % 2 ^ 52 = K - 2 ^ 52 := by omega
    have h4 : ((n.log2 + 1022) * 2 ^ 52 + K) / 2 ^ 52 = n.log2 + 1023 := by omega
    simp only [h1, h2, h3, h4]
    rw [if_neg (by omega), if_pos (by omega)]
    have e1 : 2 ^ 52 + (K - 2 ^ 52) = K := by omega
    have e2 : (-1074 : Int) + ((n.log2 + 1023 - 1 : Nat) : Int) = -((52 - n.log2 : Nat) : Int) := by omega
    rw [e1, e2]
    rfl
theorem nearest_eq {n : Nat} (h : n < 2 ^ 53) : FloatKind.f64.nearest (n : Int) = canon n := by
  have h0 : decide ((n : Int) < 0) = false := by simp
  have h1 : ((n : Int)).natAbs = n := Int.natAbs_natCast n
  unfold FloatKind.nearest FloatKind.encode
  show Ieee.double.write _ = _
  unfold Ieee.Format.write
  simp only [h0, h1]
  have := nearest_scaled (n := n) 0 h
  simpa using this
theorem nearest_int {n : Int} (h0 : 0 ≤ n) (h : n < 2 ^ 53) : FloatKind.f64.nearest n = canon n.toNat := by
  have := nearest_eq (n := n.toNat) (by omega)
  rwa [Int.toNat_of_nonneg h0] at this
theorem compare_scaled (a b : Int) {p : Int} (hp : 0 < p) : compare (a * p) (b * p) = compare a b := by
  rcases Int.lt_trichotomy a b with h | h | h
  · rw [Int.compare_eq_lt.2 h, Int.compare_eq_lt.2 (Int.mul_lt_mul_of_pos_right h hp)]
  · subst h; rw [Int.compare_eq_eq.2 rfl, Int.compare_eq_eq.2 rfl]
  · rw [Int.compare_eq_gt.2 h, Int.compare_eq_gt.2 (Int.mul_lt_mul_of_pos_right h hp)]
theorem signed_false (m k : Nat) : Ieee.signed false m k = ((m * 2 ^ k : Nat) : Int) := by
  simp [Ieee.signed, Nat.shiftLeft_eq]
theorem signed_true (m k : Nat) : Ieee.signed true m k = -((m * 2 ^ k : Nat) : Int) := by
  simp [Ieee.signed, Nat.shiftLeft_eq]
def wholeD : Ieee.Datum → Int
  | .nan _ _ => 0
  | .infinity s => if s then 0 else 1099511627776
  | .number s m e => if s then 0 else min (((m * 2 ^ e.toNat) / 2 ^ (-e).toNat : Nat) : Int) 1099511627776
def whole (x : Nat) : Int := wholeD (Ieee.double.read x)
theorem whole_rep {a m : Nat} (ha : Rep a m) : whole a = min (m : Int) 1099511627776 := by
  obtain ⟨k, hk⟩ := ha
  unfold whole
  rw [hk]
  unfold wholeD
  simp only [Bool.false_eq_true, if_false]
  rw [show (-(k : Int)).toNat = 0 from by omega, show (- -(k : Int)).toNat = k from by omega, Nat.pow_zero, Nat.mul_one, Nat.mul_div_cancel _ (Nat.two_pow_pos k)]
def topBits : Nat := 4787326403894837248
theorem read_top : Ieee.double.read topBits = .number false 4503599627370496 (-12) := by decide +kernel
theorem signed_sign (s : Bool) (m k : Nat) : (m = 0 → Ieee.signed s m k = 0) ∧ (m ≠ 0 → s = true → Ieee.signed s m k < 0) ∧ (m ≠ 0 → s = false → 0 < Ieee.signed s m k) := by
  have p := Nat.two_pow_pos k
  refine ⟨fun h => ?_, fun h hs => ?_, fun h hs => ?_⟩
  · subst h; cases s <;> simp [Ieee.signed]
  · subst hs; rw [signed_true]
    have := Nat.mul_pos (Nat.pos_of_ne_zero h) p
    omega
  · subst hs; rw [signed_false]
    have := Nat.mul_pos (Nat.pos_of_ne_zero h) p
    omega
theorem order_zero_number {x : Nat} {s : Bool} {m : Nat} {e : Int} (h : Ieee.double.read x = .number s m e) :
    Ieee.double.order x 0 = some (if m = 0 then .eq else if s then .lt else .gt) := by
  unfold Ieee.Format.order
  rw [h, read_zero]
  unfold Ieee.Datum.order
  simp only [signed_false, Nat.zero_mul]
  rw [show ((0 : Nat) : Int) = 0 from rfl]
  obtain ⟨a, b, c⟩ := signed_sign s m (e - min e (-1074)).toNat
  by_cases hm : m = 0
  · rw [if_pos hm, a hm]; rfl
  · rw [if_neg hm]
    cases s with
    | true => rw [if_pos rfl, Int.compare_eq_lt.2 (b hm rfl)]
    | false => rw [if_neg (by decide), Int.compare_eq_gt.2 (c hm rfl)]
theorem pow_split (a b : Nat) (h : b ≤ a) : 2 ^ a = 2 ^ b * 2 ^ (a - b) := by rw [← Nat.pow_add]; congr 1; omega
theorem cmp_mul (a b p : Nat) (hp : 0 < p) : compare ((a * p : Nat) : Int) ((b * p : Nat) : Int) = compare (a : Int) (b : Int) := by
  have := compare_scaled (a : Int) (b : Int) (p := (p : Int)) (by omega)
  rwa [← Int.natCast_mul, ← Int.natCast_mul] at this
theorem order_top_number {x : Nat} {s : Bool} {m : Nat} {e : Int} (h : Ieee.double.read x = .number s m e) :
    Ieee.double.order x topBits = some (if s then .lt else compare ((m * 2 ^ e.toNat : Nat) : Int) ((1099511627776 * 2 ^ (-e).toNat : Nat) : Int)) := by
  unfold Ieee.Format.order
  rw [h, read_top]
  unfold Ieee.Datum.order
  cases s with
  | true =>
    have p := Nat.two_pow_pos (-12 - min e (-12)).toNat
    simp only [signed_false, if_true, signed_true]
    rw [Int.compare_eq_lt.2]
    have := Int.natCast_nonneg (m * 2 ^ (e - min e (-12)).toNat)
    have q : 0 < 4503599627370496 * 2 ^ (-12 - min e (-12)).toNat := Nat.mul_pos (by decide) p
    omega
  | false =>
    simp only [signed_false, Bool.false_eq_true, if_false]
    congr 1
    by_cases h1 : 0 ≤ e
    · have e1 : (e - min e (-12)).toNat = e.toNat + 12 := by omega
      have e2 : (-12 - min e (-12)).toNat = 0 := by omega
      have e3 : (-e).toNat = 0 := by omega
      rw [e1, e2, e3, Nat.pow_add, ← Nat.mul_assoc]
      rw [show 4503599627370496 * 2 ^ 0 = 1099511627776 * 2 ^ 0 * 2 ^ 12 from by decide]
      exact cmp_mul _ _ _ (by decide)
    · by_cases h2 : -12 ≤ e
      · obtain ⟨k, rfl⟩ : ∃ k : Nat, e = -(k : Int) := ⟨(-e).toNat, by omega⟩
        have hk : k ≤ 12 := by omega
        have e1 : (-(k : Int) - min (-(k : Int)) (-12)).toNat = 12 - k := by omega
        have e2 : (-12 - min (-(k : Int)) (-12)).toNat = 0 := by omega
        have e3 : (- -(k : Int)).toNat = k := by omega
        have e4 : (-(k : Int)).toNat = 0 := by omega
        rw [e1, e2, e3, e4]
        have e5 : 4503599627370496 * 2 ^ 0 = 1099511627776 * 2 ^ k * 2 ^ (12 - k) := by
          rw [Nat.mul_assoc, ← Nat.pow_add, show k + (12 - k) = 12 from by omega]
        rw [e5, show m * 2 ^ (12 - k) = m * 2 ^ 0 * 2 ^ (12 - k) from by rw [Nat.pow_zero, Nat.mul_one]]
        exact cmp_mul _ _ _ (Nat.two_pow_pos _)
      · obtain ⟨k, rfl⟩ : ∃ k : Nat, e = -(k : Int) := ⟨(-e).toNat, by omega⟩
        have hk : 12 < k := by omega
        have e1 : (-(k : Int) - min (-(k : Int)) (-12)).toNat = 0 := by omega
        have e2 : (-12 - min (-(k : Int)) (-12)).toNat = k - 12 := by omega
        have e3 : (- -(k : Int)).toNat = k := by omega
        have e4 : (-(k : Int)).toNat = 0 := by omega
        rw [e1, e2, e3, e4, show 4503599627370496 * 2 ^ (k - 12) = 1099511627776 * 2 ^ k from by
          rw [pow_split k 12 (by omega), ← Nat.mul_assoc]]
theorem toInt_number {x : Nat} {s : Bool} {m : Nat} {e : Int} (h : Ieee.double.read x = .number s m e) :
    (FloatKind.f64.decode x).toInt .zero = some (if s then -(((m * 2 ^ e.toNat) / 2 ^ (-e).toNat : Nat) : Int) else (((m * 2 ^ e.toNat) / 2 ^ (-e).toNat : Nat) : Int)) := by
  show (Ieee.double.read x).toInt .zero = _
  rw [h]
  unfold Ieee.Datum.toInt Ieee.Datum.integral
  simp only [cut_zero, Nat.shiftLeft_eq]
  cases s with
  | true => rw [signed_true, Nat.pow_zero, Nat.mul_one, if_pos rfl]
  | false => rw [signed_false, Nat.pow_zero, Nat.mul_one, if_neg (by decide)]
theorem order_nan {x y : Nat} {s : Bool} {f : Nat} (h : Ieee.double.read x = .nan s f) : Ieee.double.order x y = none := by
  unfold Ieee.Format.order; rw [h]; rfl
theorem order_inf {x y : Nat} {s t : Bool} {m : Nat} {e : Int} (h : Ieee.double.read x = .infinity s) (hy : Ieee.double.read y = .number t m e) : Ieee.double.order x y = some (if s then .lt else .gt) := by
  unfold Ieee.Format.order; rw [h, hy]; rfl
theorem toIntVal_of {x : Nat} {n : Int} (h : (FloatKind.f64.decode x).toInt .zero = some n) (h0 : -9223372036854775808 ≤ n) (h1 : n ≤ 9223372036854775807) : floatToIntVal .f64 x .i64 = some n := by
  unfold floatToIntVal
  rw [h]
  have a : IntKind.i64.min = -9223372036854775808 := by decide
  have b : IntKind.i64.max = 9223372036854775807 := by decide
  simp only [a, b]
  rw [if_pos ⟨h0, h1⟩]
theorem whole_no {x : Nat} (h : (Ieee.double.order x 0 == some .gt) = false) : whole x = 0 := by
  unfold whole
  cases hr : Ieee.double.read x with
  | nan s f => rfl
  | infinity s =>
    rw [order_inf hr read_zero] at h
    cases s with
    | true => rfl
    | false => simp at h
  | number s m e =>
    rw [order_zero_number hr] at h
    cases s with
    | true => rfl
    | false =>
      by_cases hm : m = 0
      · subst hm; simp [wholeD]; rfl
      · rw [if_neg hm] at h; simp at h
theorem whole_top {x : Nat} (h : (Ieee.double.order x topBits == some .gt) = true) : whole x = 1099511627776 := by
  unfold whole
  cases hr : Ieee.double.read x with
  | nan s f => rw [order_nan hr] at h; simp at h
  | infinity s =>
    rw [order_inf hr read_top] at h
    cases s with
    | true => simp at h
    | false => rfl
  | number s m e =>
    rw [order_top_number hr] at h
    cases s with
    | true => simp at h
    | false =>
      simp only [Bool.false_eq_true, if_false, beq_iff_eq, Option.some.injEq, Int.compare_eq_gt] at h
      have p := Nat.two_pow_pos (-e).toNat
      have q : 1099511627776 ≤ (m * 2 ^ e.toNat) / 2 ^ (-e).toNat := (Nat.le_div_iff_mul_le p).2 (by omega)
      unfold wholeD
      simp only [Bool.false_eq_true, if_false]
      omega
theorem whole_int {x : Nat} (h : (Ieee.double.order x 0 == some .gt) = true) (h1 : (Ieee.double.order x topBits == some .gt) = false) : floatToIntVal .f64 x .i64 = some (whole x) := by
  unfold whole
  cases hr : Ieee.double.read x with
  | nan s f => rw [order_nan hr] at h; simp at h
  | infinity s =>
    rw [order_inf hr read_zero] at h
    rw [order_inf hr read_top] at h1
    cases s with
    | true => simp at h
    | false => simp at h1
  | number s m e =>
    rw [order_zero_number hr] at h
    rw [order_top_number hr] at h1
    have hti := toInt_number hr
    by_cases hm : m = 0
    · rw [if_pos hm] at h; simp at h
    · rw [if_neg hm] at h
      cases s with
      | true => simp at h
      | false =>
        simp only [Bool.false_eq_true, if_false] at h1 hti
        have h2 : ¬ (compare ((m * 2 ^ e.toNat : Nat) : Int) ((1099511627776 * 2 ^ (-e).toNat : Nat) : Int) = .gt) := by
          intro hc; rw [hc] at h1; simp at h1
        rw [Int.compare_eq_gt] at h2
        have p := Nat.two_pow_pos (-e).toNat
        have q : (m * 2 ^ e.toNat) / 2 ^ (-e).toNat ≤ 1099511627776 := Nat.div_le_of_le_mul (by rw [Nat.mul_comm (2 ^ (-e).toNat)]; omega)
        have hw : wholeD (.number false m e) = (((m * 2 ^ e.toNat) / 2 ^ (-e).toNat : Nat) : Int) := by
          unfold wholeD
          simp only [Bool.false_eq_true, if_false]
          omega
        rw [hw]
        generalize (m * 2 ^ e.toNat) / 2 ^ (-e).toNat = Q at hti q ⊢
        exact toIntVal_of hti (by omega) (by omega)
def fl (n : Int) : Nat := floatOfInt .f64 n
theorem fl_canon {n : Int} (h0 : 0 ≤ n) (h : n < 9007199254740992) : fl n = canon n.toNat := nearest_int h0 (by omega)
theorem rep_fl {n : Int} (h0 : 0 ≤ n) (h : n < 9007199254740992) : Rep (fl n) n.toNat := by
  rw [fl_canon h0 h]; exact rep_canon (by omega)
theorem whole_fl {n : Int} (h0 : 0 ≤ n) (h : n ≤ 1099511627776) : whole (fl n) = n := by
  rw [whole_rep (rep_fl h0 (by omega))]; omega
def cut (n : Int) : Int := min (max n 0) 1099511627776
theorem cut_in {n : Int} (h0 : 0 ≤ n) (h : n ≤ 1099511627776) : cut n = n := by unfold cut; omega
end Go.Proofs.YtdgphoemjeakaaaGreatDoor.Fl
namespace Go.Proofs.YtdgphoemjeakaaaGreatDoor.L
open Go.RowKit Fl
set_option maxRecDepth 100000
set_option maxHeartbeats 1000000 in
theorem whole_no (x : Nat) (w : World) (h : (Ieee.double.order x 0 == some .gt) = false) :
    Calls Tryz.prog 148 #[.float .f64 x] w fun e w' => e = .returned (.int .i64 0) ∧ w = w' := by
  have h1 : (FloatKind.f64.format.order x 0 == some .gt) = false := h
  clear h
  go_enter Tryz.func148, Tryz.ntmps148
  go_wp2
  go_ret
  exact ⟨rfl, rfl⟩
set_option maxHeartbeats 1000000 in
theorem whole_top (x : Nat) (w : World) (h : (Ieee.double.order x 0 == some .gt) = true) (h' : (Ieee.double.order x topBits == some .gt) = true) :
    Calls Tryz.prog 148 #[.float .f64 x] w fun e w' => e = .returned (.int .i64 1099511627776) ∧ w = w' := by
  have h1 : (FloatKind.f64.format.order x 0 == some .gt) = true := h
  have h2 : (FloatKind.f64.format.order x 4787326403894837248 == some .gt) = true := h'
  clear h h'
  go_enter Tryz.func148, Tryz.ntmps148
  go_wp2
  go_ret
  exact ⟨rfl, rfl⟩
set_option maxHeartbeats 1000000 in
theorem whole_int (x : Nat) (n : Int) (w : World) (h : (Ieee.double.order x 0 == some .gt) = true) (h' : (Ieee.double.order x topBits == some .gt) = false) (hn : floatToIntVal .f64 x .i64 = some n) :
    Calls Tryz.prog 148 #[.float .f64 x] w fun e w' => e = .returned (.int .i64 n) ∧ w = w' := by
  have h1 : (FloatKind.f64.format.order x 0 == some .gt) = true := h
  have h2 : (FloatKind.f64.format.order x 4787326403894837248 == some .gt) = false := h'
  have h3 : ∀ w : World, (convert 188 3 (.float .f64 x)).run Tryz.prog w = .ok (.int .i64 n) w := fun w => run_convert_float_int w 188 3 .f64 .i64 x n (by kernel_rfl) (by kernel_rfl) hn
  clear h h' hn
  go_enter Tryz.func148, Tryz.ntmps148
  go_wp2
  go_ret
  exact ⟨rfl, rfl⟩
theorem whole_any (x : Nat) (w : World) : Calls Tryz.prog 148 #[.float .f64 x] w fun e w' => e = .returned (.int .i64 (whole x)) ∧ w = w' := by
  by_cases h : (Ieee.double.order x 0 == some .gt) = true
  · by_cases h' : (Ieee.double.order x topBits == some .gt) = true
    · rw [Fl.whole_top h']; exact whole_top x w h h'
    · simp only [Bool.not_eq_true] at h'
      exact whole_int x _ w h h' (Fl.whole_int h h')
  · simp only [Bool.not_eq_true] at h
    rw [Fl.whole_no h]; exact whole_no x w h
set_option maxHeartbeats 1000000 in
theorem busy_any (x y : Nat) (w : World) : Calls Tryz.prog 113 #[.complex .f64 x y] w fun e w' => e = .returned (.int .i64 (whole x)) ∧ w = w' := by
  go_enter Tryz.func113, Tryz.ntmps113
  go_wp2_with (go_at_call 148; refine (whole_any _ _).mono ?_; rintro e w' ⟨rfl, rfl⟩)
  go_ret
  exact ⟨rfl, rfl⟩
set_option maxHeartbeats 1000000 in
theorem waiting_any (x y : Nat) (w : World) : Calls Tryz.prog 149 #[.complex .f64 x y] w fun e w' => e = .returned (.int .i64 (whole y)) ∧ w = w' := by
  go_enter Tryz.func149, Tryz.ntmps149
  go_wp2_with (go_at_call 148; refine (whole_any _ _).mono ?_; rintro e w' ⟨rfl, rfl⟩)
  go_ret
  exact ⟨rfl, rfl⟩
theorem underlying3 : (Tryz.prog.underlying 3).isSome = true := by kernel_rfl
theorem underlying188 : Tryz.prog.underlying 188 = some (.float .f64) := by kernel_rfl
theorem tofloat (n : Int) (w : World) : (convert 3 188 (.int .i64 n)).run Tryz.prog w = .ok (.float .f64 (fl n)) w := run_convert_int_float w 3 188 .i64 .f64 n underlying3 underlying188
theorem ret_cx {a a' b b' : Int} (h : a = a') (h' : b = b') : Ending.returned (.complex .f64 (fl a) (fl b)) = .returned (.complex .f64 (fl a') (fl b')) := by rw [h, h']
theorem ret_int {k : IntKind} {a b : Int} (h : a = b) : Ending.returned (.int k a) = .returned (.int k b) := by rw [h]
set_option maxHeartbeats 1000000 in
theorem of_any (a b : Int) (w : World) : Calls Tryz.prog 76 #[.int .i64 a, .int .i64 b] w fun e w' => e = .returned (.complex .f64 (fl (cut a)) (fl (cut b))) ∧ w = w' := by
  have hc := tofloat
  go_enter Tryz.func76, Tryz.ntmps76
  go_wp2
  all_goals
    go_ret
    exact ⟨ret_cx (by unfold cut; omega) (by unfold cut; omega), rfl⟩
def less (a b c d : Nat) : Bool := if whole a = whole c then decide (whole b < whole d) else decide (whole a < whole c)
set_option maxHeartbeats 1000000 in
theorem less_any (a b c d : Nat) (w : World) : Calls Tryz.prog 114 #[.complex .f64 a b, .complex .f64 c d] w fun e w' => e = .returned (.bool (less a b c d)) ∧ w = w' := by
  by_cases h : whole a = whole c
  · have h1 : (whole a != whole c) = false := by simp [h]
    have hl : less a b c d = decide (whole b < whole d) := by unfold less; rw [if_pos h]
    rw [hl]
    clear h hl
    go_enter Tryz.func114, Tryz.ntmps114
    go_wp2_with (first | (go_at_call 113; refine (busy_any _ _ _).mono ?_; rintro e w' ⟨rfl, rfl⟩) | (go_at_call 149; refine (waiting_any _ _ _).mono ?_; rintro e w' ⟨rfl, rfl⟩))
    go_ret
    exact ⟨rfl, rfl⟩
  · have h1 : (whole a != whole c) = true := by simp [h]
    have hl : less a b c d = decide (whole a < whole c) := by unfold less; rw [if_neg h]
    rw [hl]
    clear h hl
    go_enter Tryz.func114, Tryz.ntmps114
    go_wp2_with (first | (go_at_call 113; refine (busy_any _ _ _).mono ?_; rintro e w' ⟨rfl, rfl⟩) | (go_at_call 149; refine (waiting_any _ _ _).mono ?_; rintro e w' ⟨rfl, rfl⟩))
    go_ret
    exact ⟨rfl, rfl⟩
def In (x : Int) : Prop := 0 ≤ x ∧ x ≤ 1099511627776
theorem In.mk {x : Int} (h0 : 0 ≤ x) (h1 : x ≤ 1099511627776) : In x := ⟨h0, h1⟩
theorem of_in (a b : Int) (w : World) (ha : In a) (hb : In b) : Calls Tryz.prog 76 #[.int .i64 a, .int .i64 b] w fun e w' => e = .returned (.complex .f64 (fl a) (fl b)) ∧ w = w' := by
  have h := of_any a b w
  rwa [cut_in ha.1 ha.2, cut_in hb.1 hb.2] at h
end Go.Proofs.YtdgphoemjeakaaaGreatDoor.L
namespace Go.Proofs.YtdgphoemjeakaaaGreatDoor.Pk
open Go.RowKit Fl L
def leastTo (zs : List (Nat × Nat)) (m : Int) : Nat → Int
  | 0 => -1
  | k + 1 => if whole (zs.getD k (0, 0)).1 < m ∧ (leastTo zs m k < 0 ∨ less (zs.getD k (0, 0)).1 (zs.getD k (0, 0)).2 (zs.getD (leastTo zs m k).toNat (0, 0)).1 (zs.getD (leastTo zs m k).toNat (0, 0)).2 = true) then k else leastTo zs m k
theorem leastTo_bd (zs : List (Nat × Nat)) (m : Int) (k : Nat) : -1 ≤ leastTo zs m k ∧ leastTo zs m k < k := by
  induction k with
  | zero => simp [leastTo]
  | succ k ih =>
    unfold leastTo
    split <;> omega
theorem least_keep {zs : List (Nat × Nat)} {m : Int} {k : Nat} (h : ¬ whole (zs.getD k (0, 0)).1 < m) : leastTo zs m (k + 1) = leastTo zs m k := by
  rw [leastTo, if_neg (by intro h'; exact h h'.1)]
theorem least_first {zs : List (Nat × Nat)} {m : Int} {k : Nat} (h : whole (zs.getD k (0, 0)).1 < m) (h' : leastTo zs m k < 0) : leastTo zs m (k + 1) = k := by
  rw [leastTo, if_pos ⟨h, .inl h'⟩]
theorem least_turn {zs : List (Nat × Nat)} {m : Int} {k : Nat} (h : whole (zs.getD k (0, 0)).1 < m) (h' : less (zs.getD k (0, 0)).1 (zs.getD k (0, 0)).2 (zs.getD (leastTo zs m k).toNat (0, 0)).1 (zs.getD (leastTo zs m k).toNat (0, 0)).2 = true) : leastTo zs m (k + 1) = k := by
  rw [leastTo, if_pos ⟨h, .inr h'⟩]
theorem least_stay {zs : List (Nat × Nat)} {m : Int} {k : Nat} (h0 : ¬ leastTo zs m k < 0) (h' : less (zs.getD k (0, 0)).1 (zs.getD k (0, 0)).2 (zs.getD (leastTo zs m k).toNat (0, 0)).1 (zs.getD (leastTo zs m k).toNat (0, 0)).2 = false) : leastTo zs m (k + 1) = leastTo zs m k := by
  rw [leastTo, if_neg (by intro h; rcases h.2 with a | a; exact h0 a; rw [h'] at a; cases a)]
set_option maxHeartbeats 1000000 in
theorem least_some (b off c : Nat) (zs : List (Nat × Nat)) (m : Int) (w : World) (hlen : zs.length ≤ 8796093022208)
    (hcell : ∀ k, k < zs.length → w.cell? ⟨b, off + k, none⟩ = some (.complex .f64 (zs.getD k (0, 0)).1 (zs.getD k (0, 0)).2)) :
    Calls Tryz.prog 78 #[.slice (some ⟨b, off, none⟩) zs.length c, .int .i64 m] w fun e w' => e = .returned (.int .i64 (leastTo zs m zs.length)) ∧ w = w' := by
  have HC : Hid (∀ k, k < zs.length → w.cell? ⟨b, off + k, none⟩ = some (.complex .f64 (zs.getD k (0, 0)).1 (zs.getD k (0, 0)).2)) := hcell
  clear hcell
  go_enter Tryz.func78, Tryz.ntmps78
  go_wp2_with fail
  go_loop [5, 10] (fun s i => ∃ k : Nat, k ≤ zs.length ∧ i = .int .i64 k ∧ s = .int .i64 (leastTo zs m k)) (fun _ i => zs.length - (intOf i).toNat)
  case atStart => exact ⟨0, Nat.zero_le _, rfl, rfl⟩
  case round =>
    obtain ⟨k, hk, rfl, rfl⟩ := hrel
    obtain ⟨a1, a2⟩ := leastTo_bd zs m k
    by_cases hlt : k < zs.length
    · have hc := HC.out k hlt
      by_cases hm : whole (zs.getD k (0, 0)).1 < m
      · by_cases h0 : leastTo zs m k < 0
        · have HK := Lib.hid (least_first hm h0)
          generalize leastTo zs m k = q at *
          generalize zs.getD k (0, 0) = z at *
          go_wp2_with (first | (go_at_call 113; refine (busy_any _ _ _).mono ?_; rintro e w' ⟨rfl, rfl⟩))
          go_round
          case rel => exact ⟨k + 1, by omega, by go_num, by rw [HK.out]⟩
          case measure => simp [intOf]; omega
        · have hc2 := HC.out (leastTo zs m k).toNat (by omega)
          cases hl : less (zs.getD k (0, 0)).1 (zs.getD k (0, 0)).2 (zs.getD (leastTo zs m k).toNat (0, 0)).1 (zs.getD (leastTo zs m k).toNat (0, 0)).2 with
          | true =>
            have HK := Lib.hid (least_turn hm hl)
            obtain ⟨q, hq⟩ : ∃ q : Nat, leastTo zs m k = q := ⟨(leastTo zs m k).toNat, by omega⟩
            rw [hq] at hc2 hl a1 a2 h0 ⊢
            rw [Int.toNat_natCast] at hc2 hl
            clear hq
            generalize zs.getD k (0, 0) = z at *
            generalize zs.getD q (0, 0) = z2 at *
            have hq0 : ((q : Int) < 0) = False := by simp
            have hql : q < zs.length := by omega
            have LS := Lib.hid (fun w => less_any z.1 z.2 z2.1 z2.2 w)
            rw [hl] at LS
            clear hl
            go_wp2_with (first | (go_at_call 113; refine (busy_any _ _ _).mono ?_; rintro e w' ⟨rfl, rfl⟩) | (go_at_call 114; refine (LS.out _).mono ?_; rintro e w' ⟨rfl, rfl⟩))
            go_round
            case rel => exact ⟨k + 1, by omega, by go_num, by rw [HK.out]⟩
            case measure => simp [intOf]; omega
          | false =>
            have HK := Lib.hid (least_stay h0 hl)
            obtain ⟨q, hq⟩ : ∃ q : Nat, leastTo zs m k = q := ⟨(leastTo zs m k).toNat, by omega⟩
            rw [hq] at HK hc2 hl a1 a2 h0 ⊢
            rw [Int.toNat_natCast] at hc2 hl
            clear hq
            generalize zs.getD k (0, 0) = z at *
            generalize zs.getD q (0, 0) = z2 at *
            have hq0 : ((q : Int) < 0) = False := by simp
            have hql : q < zs.length := by omega
            have LS := Lib.hid (fun w => less_any z.1 z.2 z2.1 z2.2 w)
            rw [hl] at LS
            clear hl
            go_wp2_with (first | (go_at_call 113; refine (busy_any _ _ _).mono ?_; rintro e w' ⟨rfl, rfl⟩) | (go_at_call 114; refine (LS.out _).mono ?_; rintro e w' ⟨rfl, rfl⟩))
            go_round
            case rel => exact ⟨k + 1, by omega, by go_num, by rw [HK.out]⟩
            case measure => simp [intOf]; omega
      · have HK := Lib.hid (least_keep hm)
        generalize leastTo zs m k = q at *
        generalize zs.getD k (0, 0) = z at *
        go_wp2_with (first | (go_at_call 113; refine (busy_any _ _ _).mono ?_; rintro e w' ⟨rfl, rfl⟩))
        go_round
        case rel => exact ⟨k + 1, by omega, by go_num, by rw [HK.out]⟩
        case measure => simp [intOf]; omega
    · obtain rfl : k = zs.length := by omega
      go_wp2
      go_ret
      exact ⟨rfl, rfl⟩
end Go.Proofs.YtdgphoemjeakaaaGreatDoor.Pk
namespace Go.Proofs.YtdgphoemjeakaaaGreatDoor.Y
open Go.RowKit K L Fl
set_option maxRecDepth 100000
theorem info141 : (Tryz.prog.info? 141).map (fun i => (i.zero, i.size, i.bytes)) = some (some (.complex .f64 0 0), 1, 16) := by kernel_rfl
theorem run_app0 {P : Program} (w : World) (t ty e : TypeId) (i : TypeInfo) (ht : P.underlying t = some (.slice e)) (hi : P.info? e = some i) (b : Option Addr) (a : Addr) (c : Nat) :
    (Builtin.append_ #[t, t] ty #[.slice b 0 0, .slice (some a) 0 c]).run P w = .ok (.slice b 0 0) w := by
  have hf := run_firstCells_some (P := P) w i.size 0 a 0 c [] (by simp) (by simp)
  cases b <;> simp [Builtin.append_, run_underlying ht, sizeOf, typeInfo, hi, Builtin.lenOf, hf, storeCells]
theorem wpList_app0 {P : Program} (w : World) {ops : Array Oper} {rest : List Oper} {o : Oper} {a : Act} {Q : Exit → Act → World → Prop} (hgd : o.guard = none) (s x : Operand) (t : TypeId)
    (ho : o.op = .call { callee := .builtin .append, args := #[s, x], argTypes := #[t, t] })
    (e : TypeId) (i : TypeInfo) (ht : P.underlying t = some (.slice e)) (hi : P.info? e = some i)
    (b : Option Addr) (hs : a.eval s = .slice b 0 0) (ad : Addr) (c : Nat) (hx : a.eval x = .slice (some ad) 0 c)
    (h : wpList P ops Q rest (a.put o.dst (.slice b 0 0)) w) : wpList P ops Q (o :: rest) a w := by
  have hr := run_app0 (P := P) w t o.type e i ht hi b ad c
  refine wpList_plain hgd fun K hK' => ?_
  unfold Oper.wp execOp
  simp only [ho, resolve, invoke, builtin, Sem.run_bind, Sem.run_pure, Result.andThen_ok, List.map_toArray, List.map_cons, List.map_nil, hs, hx, hr]
  exact hK' _ _ h
theorem nil76 (w : World) : (binOp .eql 76 (.slice none 0 0) (.slice none 0 0)).run Tryz.prog w = .ok (.bool true) w := by kernel_rfl
theorem some76 (a : Addr) (n c : Nat) (w : World) : (binOp .eql 76 (.slice (some a) n c) (.slice none 0 0)).run Tryz.prog w = .ok (.bool false) w := by kernel_rfl
theorem nil45 (w : World) : (binOp .eql 45 (.slice none 0 0) (.slice none 0 0)).run Tryz.prog w = .ok (.bool true) w := by kernel_rfl
theorem some45 (a : Addr) (n c : Nat) (w : World) : (binOp .eql 45 (.slice (some a) n c) (.slice none 0 0)).run Tryz.prog w = .ok (.bool false) w := by kernel_rfl
attribute [local go_sem] nil76 some76 nil45 some45
theorem new_own (w : World) (e : TypeId) (size : Nat) : Own (w.alloc (.cells #[] e)) (New w) e size (.slice (some ⟨w.heap.size, 0, none⟩) 0 0) 0 [] :=
  ⟨by simp, .inr ⟨w.heap.size, 0, 0, #[], rfl, Nat.le_refl _, Blk.new w #[] e, Nat.le_refl _, Nat.zero_le _, by simp, by simp⟩⟩
theorem own_news {w : World} {S : Nat → Prop} {e : TypeId} {size n g o cap : Nat} {xs : List Value} (h : Own w S e size (.slice (some ⟨g, o, none⟩) n cap) n xs) : ∀ j u, xs[j]? = some u → w.cell? ((⟨g, o, none⟩ : Addr).add j) = some u := by
  intro j u hu
  have hj : j < n * size := by rw [← h.len]; exact (List.getElem?_eq_some_iff.1 hu).1
  rw [Addr.add_lit, h.cellAt j hj]
  exact hu
set_option maxHeartbeats 1000000 in
theorem clone_ints (w : World) (S : Nat → Prop) (v : Value) (n : Nat) (xs : List Value) (own : Own w S 3 1 v n xs) (hn : n ≤ 1099511627776) (h1 : ∀ u ∈ xs, u.oneCell' = true) :
    Calls Tryz.prog 108 #[v] w fun e w' => ∃ v', e = .returned v' ∧ Own w' (New w) 3 1 v' n xs ∧ Chg No w w' := by
  obtain ⟨i0, hi, hz0, hz1, hz2⟩ := info_parts A.info3
  have HX := Lib.hid h1
  have hl := own.len
  rcases own.form with ⟨rfl, rfl, rfl⟩ | ⟨g, o, cap, rfl, hS, hg, hc1, hc2⟩
  · clear own h1 hl
    go_enter Tryz.func108, Tryz.ntmps108
    go_wp2
    go_ret
    exact ⟨_, rfl, Own.nil _ _ _ _, Chg.refl _ _⟩
  · have HO := Lib.hid (own.alloc (.cells #[] 3))
    have HN := Lib.hid (new_own w 3 1)
    clear own h1
    by_cases h0 : n = 0
    · subst h0
      obtain rfl : xs = [] := List.eq_nil_of_length_eq_zero (by simpa using hl)
      go_enter Tryz.func108, Tryz.ntmps108
      go_wp2_with (at_builtin; refine wpList_app0 _ rfl (.tmp 5) (.tmp 6) 76 rfl 3 i0 Tryz.underlying76 hi (some ⟨w.heap.size, 0, none⟩) (by simp [Act.eval]) ⟨g, o, none⟩ cap (by simp [Act.eval]) ?_)
      go_ret
      exact ⟨_, rfl, HN.out, (Chg.refl No w).alloc _⟩
    · go_enter Tryz.func108, Tryz.ntmps108
      go_wp2_with (at_builtin; refine wpList_app _ rfl (.tmp 5) (.tmp 6) 76 rfl (New w) 3 i0 _ 1 8 Tryz.underlying76 hi hz0 hz1 hz2 rfl (.slice (some ⟨w.heap.size, 0, none⟩) 0 0) 0 [] (by simp [Act.eval]) HN.out ⟨g, o, none⟩ n cap xs (by simp [Act.eval]) (by omega) hl (own_news HO.out) HX.out (by simp only [maxLen]; omega) (by omega) ?_; intro g2 o2 c2 w' ho' hc')
      go_ret
      obtain ⟨x1, x2⟩ := fresh_app (Chg.refl No w) ho' hc'
      simp only [Nat.zero_add, List.nil_append] at x1
      exact ⟨_, rfl, x1, x2⟩
set_option maxHeartbeats 1000000 in
theorem clone_reqs (w : World) (S : Nat → Prop) (v : Value) (n : Nat) (xs : List Value) (own : Own w S 48 4 v n xs) (hn : n ≤ 1099511627776) (h1 : ∀ u ∈ xs, u.oneCell' = true) :
    Calls Tryz.prog 37 #[v] w fun e w' => ∃ v', e = .returned v' ∧ Own w' (New w) 48 4 v' n xs ∧ Chg No w w' := by
  obtain ⟨i0, hi, hz0, hz1, hz2⟩ := info_parts info48
  have HX := Lib.hid h1
  have hl := own.len
  rcases own.form with ⟨rfl, rfl, rfl⟩ | ⟨g, o, cap, rfl, hS, hg, hc1, hc2⟩
  · clear own h1 hl
    go_enter Tryz.func37, Tryz.ntmps37
    go_wp2
    go_ret
    exact ⟨_, rfl, Own.nil _ _ _ _, Chg.refl _ _⟩
  · have HO := Lib.hid (own.alloc (.cells #[] 48))
    have HN := Lib.hid (new_own w 48 4)
    clear own h1
    by_cases h0 : n = 0
    · subst h0
      obtain rfl : xs = [] := List.eq_nil_of_length_eq_zero (by simpa using hl)
      go_enter Tryz.func37, Tryz.ntmps37
      go_wp2_with (at_builtin; refine wpList_app0 _ rfl (.tmp 5) (.tmp 6) 45 rfl 48 i0 Tryz.underlying45 hi (some ⟨w.heap.size, 0, none⟩) (by simp [Act.eval]) ⟨g, o, none⟩ cap (by simp [Act.eval]) ?_)
      go_ret
      exact ⟨_, rfl, HN.out, (Chg.refl No w).alloc _⟩
    · go_enter Tryz.func37, Tryz.ntmps37
      go_wp2_with (at_builtin; refine wpList_app _ rfl (.tmp 5) (.tmp 6) 45 rfl (New w) 48 i0 _ 4 32 Tryz.underlying45 hi hz0 hz1 hz2 rfl (.slice (some ⟨w.heap.size, 0, none⟩) 0 0) 0 [] (by simp [Act.eval]) HN.out ⟨g, o, none⟩ n cap xs (by simp [Act.eval]) (by omega) hl (own_news HO.out) HX.out (by simp only [maxLen]; omega) (by omega) ?_; intro g2 o2 c2 w' ho' hc')
      go_ret
      obtain ⟨x1, x2⟩ := fresh_app (Chg.refl No w) ho' hc'
      simp only [Nat.zero_add, List.nil_append] at x1
      exact ⟨_, rfl, x1, x2⟩
theorem least_eq (bs : List Int) (m : Int) (hb : ∀ b, b ∈ bs → In b) : ∀ (k : Nat), k ≤ bs.length → Pk.leastTo (bs.map fun b => (Fl.fl b, Fl.fl 0)) m k = V.least bs m k
  | 0, _ => rfl
  | k + 1, hk => by
    have ih := least_eq bs m hb k (by omega)
    have g : ∀ j, j < bs.length → (bs.map fun b => (Fl.fl b, Fl.fl 0)).getD j (0, 0) = (Fl.fl (bs.getD j 0), Fl.fl 0) := by
      intro j hj
      simp [List.getD, List.getElem?_eq_getElem hj]
    have hi : ∀ j, j < bs.length → In (bs.getD j 0) := by
      intro j hj
      simp only [List.getD, List.getElem?_eq_getElem hj, Option.getD_some]
      exact hb _ (List.getElem_mem hj)
    obtain ⟨b1, b2⟩ := V.least_bd bs m k
    have hk' := hi k (by omega)
    have w0 : whole (Fl.fl 0) = 0 := whole_fl (by omega) (by omega)
    rw [Pk.leastTo, V.least, ih, g k (by omega), whole_fl hk'.1 hk'.2]
    simp only
    by_cases h0 : V.least bs m k < 0
    · simp only [h0, true_or, and_true]
    · have hq := hi (V.least bs m k).toNat (by omega)
      rw [g _ (by omega)]
      have e : less (Fl.fl (bs.getD k 0)) (Fl.fl 0) (Fl.fl (bs.getD (V.least bs m k).toNat 0)) (Fl.fl 0) = decide (bs.getD k 0 < bs.getD (V.least bs m k).toNat 0) := by
        unfold less
        rw [whole_fl hk'.1 hk'.2, whole_fl hq.1 hq.2, w0]
        split
        · rename_i h; rw [h]; simp
        · rfl
      rw [e]
      simp only [decide_eq_true_eq]
set_option maxHeartbeats 1000000 in
theorem least_nil (m : Int) (w : World) : Calls Tryz.prog 78 #[.slice none 0 0, .int .i64 m] w fun e w' => e = .returned (.int .i64 (-1)) ∧ w = w' := by
  go_enter Tryz.func78, Tryz.ntmps78
  go_wp2_with fail
  go_loop [5, 10] (fun s i => s = .int .i64 (-1) ∧ i = .int .i64 0) (fun _ _ => 0)
  case atStart => exact ⟨rfl, rfl⟩
  case round =>
    obtain ⟨rfl, rfl⟩ := hrel
    go_wp2
    go_ret
    exact ⟨rfl, rfl⟩
theorem least_any (w : World) (S : Nat → Prop) (v : Value) (bs : List Int) (own : Own w S 141 1 v bs.length (bs.map fun b => .complex .f64 (Fl.fl b) (Fl.fl 0))) (hb : ∀ b, b ∈ bs → In b) (hn : bs.length ≤ 1000000) (m : Int) :
    Calls Tryz.prog 78 #[v, .int .i64 m] w fun e w' => e = .returned (.int .i64 (V.least bs m bs.length)) ∧ w = w' := by
  rcases own.form with ⟨rfl, h0, _⟩ | ⟨g, o, cap, rfl, _⟩
  · rw [h0]
    exact least_nil m w
  · have h := Pk.least_some g o cap (bs.map fun b => (Fl.fl b, Fl.fl 0)) m w (by rw [List.length_map]; omega) (fun k hk => by
      rw [List.length_map] at hk
      rw [own.cellAt k (by omega)]
      simp [List.getD, List.getElem?_eq_getElem hk])
    rw [List.length_map, least_eq bs m hb _ (Nat.le_refl _)] at h
    exact h
end Go.Proofs.YtdgphoemjeakaaaGreatDoor.Y
namespace Go.Proofs.YtdgphoemjeakaaaGreatDoor.A
open Go.RowKit Go.Shelf K
open M (Pod)
set_option maxRecDepth 100000
def ripeTo (now after : Int) (es : List (Nat × Pod)) (n : Nat) : List (Nat × Pod) := (es.take n).map (fun x => (x.1, M.ripe now after x.2)) ++ es.drop n
theorem ripeTo_len (now after : Int) (es : List (Nat × Pod)) (n : Nat) : (ripeTo now after es n).length = es.length := by
  simp [ripeTo]; omega
theorem ripeTo_at {now after : Int} {es : List (Nat × Pod)} {n : Nat} (hn : n < es.length) : (ripeTo now after es n)[n]? = es[n]? := by
  unfold ripeTo
  rw [List.getElem?_append_right (by simp; omega), List.getElem?_drop]
  congr 1
  simp
  omega
theorem ripeTo_set {now after : Int} {es : List (Nat × Pod)} {n : Nat} {b : Nat} {q : Pod} (hq : es[n]? = some (b, q)) : (ripeTo now after es n).set n (b, M.ripe now after q) = ripeTo now after es (n + 1) := by
  have hn : n < es.length := (List.getElem?_eq_some_iff.1 hq).1
  unfold ripeTo
  rw [List.set_append_right _ _ (by simp; omega), List.take_add_one, hq, List.map_append]
  simp only [List.length_map, List.length_take, Nat.min_eq_left (Nat.le_of_lt hn), Nat.sub_self, Option.toList_some, List.map_cons, List.map_nil, List.append_assoc]
  congr 1
  rw [List.drop_eq_getElem_cons hn]
  rfl
theorem ripeTo_same {now after : Int} {es : List (Nat × Pod)} {n : Nat} {b : Nat} {q : Pod} (hq : es[n]? = some (b, q)) (hr : M.ripe now after q = q) : ripeTo now after es (n + 1) = ripeTo now after es n := by
  rw [← ripeTo_set hq, hr]
  have hn : n < es.length := (List.getElem?_eq_some_iff.1 hq).1
  have h2 : (ripeTo now after es n)[n]? = some (b, q) := by rw [ripeTo_at hn, hq]
  apply List.ext_getElem?
  intro t
  rw [List.getElem?_set]
  by_cases e : n = t
  · subst e
    rw [if_pos rfl, if_pos (by rw [ripeTo_len]; exact hn), h2]
  · rw [if_neg e]
theorem ripeTo_all (now after : Int) (es : List (Nat × Pod)) : (ripeTo now after es es.length).map Prod.snd = (es.map Prod.snd).map (M.ripe now after) := by
  simp [ripeTo, Function.comp_def]
set_option maxHeartbeats 2000000 in
theorem ripe_any (w : World) (S : Nat → Prop) (p : Nat) (ps : List Pod) (made : Int) (h : Life w S p ps made) (ok : M.Ok ps) (now after : Int) (a0 : 0 ≤ after) (a1 : after ≤ 100) :
    Calls Tryz.prog 23 #[.pointer (some ⟨p, 0, none⟩), .int .i64 now, .int .i64 after] w fun e w' => e = .returned (.tuple #[]) ∧ Life w' S p (ps.map (M.ripe now after)) made ∧ Chg S w w' := by
  obtain ⟨v, es, h, rfl⟩ := h
  obtain ⟨hn, ok⟩ := ok
  rw [List.length_map] at hn
  have c0 : w.cell? ⟨p, 0, none⟩ = some v := Blk.cell h.blk 0
  obtain ⟨va, cap, hv⟩ := h.row.sl
  rw [hv] at c0
  have H := Lib.hid h
  have OK := Lib.hid ok
  clear h hv ok
  have k1 : decide (after < 0) = false := decide_eq_false (by omega)
  have k2 : decide (100 < after) = false := decide_eq_false (by omega)
  go_enter Tryz.func23, Tryz.ntmps23
  go_wp2_with fail
  go_loopw [23] (fun i wr => ∃ n : Nat, n ≤ es.length ∧ i = .int .i64 n ∧ Hid (LifeV wr S p v (ripeTo now after es n) made) ∧ Hid (Chg S w wr)) (fun i _ => es.length - (intOf i).toNat)
  case atStart => exact ⟨0, Nat.zero_le _, rfl, by rw [show ripeTo now after es 0 = es from by simp [ripeTo]]; exact H, Chg.refl _ _⟩
  case round =>
    obtain ⟨n, hk, rfl, HL, HC⟩ := hrel
    by_cases hlt : n < es.length
    · obtain ⟨⟨b, q⟩, hq⟩ : ∃ x, es[n]? = some x := ⟨es[n], List.getElem?_eq_getElem hlt⟩
      have hq2 : (ripeTo now after es n)[n]? = some (b, q) := by rw [ripeTo_at hlt, hq]
      obtain ⟨hSb, hB⟩ := HL.out.pods _ (List.mem_of_getElem? hq2)
      obtain ⟨_, s0, s1⟩ := OK.out q (List.mem_map.2 ⟨(b, q), List.mem_of_getElem? hq, rfl⟩)
      have b1 : wr.cell? ⟨b, 1, none⟩ = some (.int .i64 q.st) := Blk.cell hB 1
      have b3 : wr.cell? ⟨b, 3, none⟩ = some (.int .i64 q.since) := Blk.cell hB 3
      have f1 := Blk.free hB 1
      have HB := Lib.hid hB
      have HQ := Lib.hid hq
      have HQ2 := Lib.hid hq2
      have HS := Lib.hid hSb
      clear hB hq hq2 hSb
      cases x1 : q.st == 1 <;> cases x2 : decide (q.since + after ≤ now)
      all_goals
        go_wp2_with (go_at_call 45; refine (pod_at _ S p v _ made HL.out _ b q (by omega) (by rw [Int.toNat_natCast]; exact HQ2.out)).mono ?_; rintro e w' ⟨rfl, rfl⟩)
        go_roundw
        case rel =>
          first
          | exact ⟨n + 1, by omega, by go_num, by rw [ripeTo_same HQ.out (by unfold M.ripe; rw [x1, x2]; rfl)]; exact HL.out, HC.out⟩
          | exact ⟨n + 1, by omega, by go_num, by rw [← ripeTo_set HQ.out]; exact HL.out.setPod HQ2.out (by have := HB.out.set 1 (.int .i64 2); unfold M.ripe; rw [x1, x2]; exact this), HC.out.set (fun _ => HS.out) _⟩
        case measure => simp [intOf]; omega
    · obtain rfl : n = es.length := by omega
      go_wp2
      go_end0
      exact ⟨rfl, ⟨v, _, HL.out, ripeTo_all _ _ _⟩, HC.out⟩
end Go.Proofs.YtdgphoemjeakaaaGreatDoor.A
namespace Go.Proofs.YtdgphoemjeakaaaGreatDoor.A
open Go.RowKit Go.Shelf K
open M (Pod)
set_option maxRecDepth 100000
set_option maxHeartbeats 1000000 in
theorem at_pred (w : World) (b B : Nat) (x id : Int) (hb : w.cell? ⟨b, 0, none⟩ = some (.int .i64 x)) (hB : w.cell? ⟨B, 0, none⟩ = some (.int .i64 id)) :
    Calls Tryz.prog 116 #[.iface 96 (.pointer (some ⟨b, 0, none⟩)), .pointer (some ⟨B, 0, none⟩)] w fun e w' => e = .returned (.bool (x == id)) ∧ Chg No w w' := by
  go_enter Tryz.func116, Tryz.ntmps116
  go_wp2
  go_quiet (fail)
  go_wp2
  go_ret
  exact ⟨rfl, (Chg.refl _ _).drewN _⟩
set_option maxHeartbeats 1000000 in
theorem at_any (w : World) (S : Nat → Prop) (p : Nat) (v : Value) (es : List (Nat × Pod)) (made : Int) (h : LifeV w S p v es made) (hn : es.length ≤ 1099511627776) (id : Int) :
    Calls Tryz.prog 81 #[.pointer (some ⟨p, 0, none⟩), .int .i64 id] w fun e w' => ∃ r, e = .returned (.int .i64 r) ∧ Hid ((r = -1 ∧ (es.map Prod.snd).findIdx? (fun q => q.id == id) = none) ∨ ∃ k : Nat, r = k ∧ k < es.length ∧ (es.map Prod.snd).findIdx? (fun q => q.id == id) = some k) ∧ Chg No w w' := by
  have c0 : w.cell? ⟨p, 0, none⟩ = some v := Blk.cell h.blk 0
  have eg : ∀ args w, (callFunc 116 args).run Tryz.prog w = .ok (.enter 116 args) w := enters_of Tryz.func116 (by kernel_rfl) rfl
  have cA : Chg No w (w.alloc (.cells #[.int .i64 id] 3)) := (Chg.refl No w).alloc _
  have hA : Blk (w.alloc (.cells #[.int .i64 id] 3)) w.heap.size #[.int .i64 id] 3 := Blk.new _ _ _
  have hI := G.index_func (fun x : Nat × Pod => Value.iface 96 (ref x)) (fun x => x.2.id == id) es 116 #[.pointer (some ⟨w.heap.size, 0, none⟩)] eg (w.alloc (.cells #[.int .i64 id] 3)) S v (h.row.kept cA) hn (fun W x hx hc => by
    have hB := ((h.kept cA).kept hc).pods x hx
    exact at_pred W x.1 w.heap.size x.2.id id (Blk.cell hB.2 0) (Blk.cell (hA.kept hc) 0))
  have HI := Lib.hid hI
  have HC := Lib.hid cA
  have hp := h.blk.lt
  clear h hA hI cA
  go_enter Tryz.func81, Tryz.ntmps81
  go_wp2_with fail
  refine HI.out.mono ?_
  rintro e w' ⟨r, rfl, hf, hc⟩
  have HF := Lib.hid hf
  have HC2 := Lib.hid hc
  clear hf hc
  go_wp2
  go_ret
  exact ⟨r, rfl, first_idx (f := fun q => q.id == id) HF.out, HC.out.trans HC2.out⟩
theorem life_set {w' : World} {S : Nat → Prop} {p : Nat} {v : Value} {es : List (Nat × Pod)} {made : Int} {k : Nat} {b : Nat} {q : Pod} (h : LifeV w' S p v (es.set k (b, q)) made) : Life w' S p ((es.map Prod.snd).set k q) made := ⟨v, _, h, by rw [List.map_set]⟩
set_option maxHeartbeats 2000000 in
theorem enter_any (w : World) (S : Nat → Prop) (p : Nat) (ps : List Pod) (made : Int) (h : Life w S p ps made) (ok : M.Ok ps) (id : Int) (hb : ∀ q, q ∈ ps → q.busy < 1099511627776) :
    Calls Tryz.prog 80 #[.pointer (some ⟨p, 0, none⟩), .int .i64 id] w fun e w' => e = .returned (.int .i64 (M.enter ps id).1) ∧ Life w' S p (M.enter ps id).2 made ∧ Chg S w w' := by
  obtain ⟨v, es, h, rfl⟩ := h
  obtain ⟨hn, ok⟩ := ok
  rw [List.length_map] at hn
  have HA := Lib.hid (at_any w S p v es made h hn id)
  have H := Lib.hid h
  have OK := Lib.hid ok
  clear h ok
  go_enter Tryz.func80, Tryz.ntmps80
  go_wp2_with fail
  refine HA.out.mono ?_
  rintro e w1 ⟨r, rfl, hf, hc⟩
  have HC := Lib.hid hc
  clear hc
  have HL := Lib.hid (H.out.kept HC.out)
  rcases hf.out with ⟨rfl, h1⟩ | ⟨k, rfl, hkl, h1⟩
  · have E : Hid (M.enter (es.map Prod.snd) id = (7, es.map Prod.snd)) := by show _ = _; simp only [M.enter, h1]
    clear h1 hf
    go_wp2
    go_ret
    rw [E.out]
    exact ⟨rfl, ⟨v, es, HL.out, rfl⟩, HC.out.of_no⟩
  · obtain ⟨⟨b, q⟩, hq⟩ : ∃ x, es[k]? = some x := ⟨es[k], List.getElem?_eq_getElem hkl⟩
    have hq2 : (es.map Prod.snd)[k]? = some q := by rw [List.getElem?_map, hq]; rfl
    obtain ⟨hSb, hB⟩ := HL.out.pods _ (List.mem_of_getElem? hq)
    have b1 : w1.cell? ⟨b, 1, none⟩ = some (.int .i64 q.st) := Blk.cell hB 1
    have b2 : w1.cell? ⟨b, 2, none⟩ = some (.int .i64 q.busy) := Blk.cell hB 2
    have f2 := Blk.free hB 2
    obtain ⟨⟨q0, q1⟩, _⟩ := OK.out q (List.mem_of_getElem? hq2)
    have q3 := hb q (List.mem_of_getElem? hq2)
    have HB := Lib.hid hB
    have HQ := Lib.hid hq
    have HS := Lib.hid hSb
    have E : Hid (M.enter (es.map Prod.snd) id = if q.st != 2 then (7, es.map Prod.snd) else (0, (es.map Prod.snd).set k { q with busy := q.busy + 1 })) := by show _ = _; simp only [M.enter, h1, hq2]
    clear hB hq hq2 hSb h1 hf hb
    cases x1 : q.st != 2
    · go_wp2_with (go_at_call 45; refine (pod_at _ S p v _ made HL.out _ b q (by omega) (by rw [Int.toNat_natCast]; exact HQ.out)).mono ?_; rintro e w' ⟨rfl, rfl⟩)
      go_ret
      rw [E.out, x1]
      exact ⟨rfl, life_set (HL.out.setPod HQ.out (HB.out.set 2 (.int .i64 (q.busy + 1)))), HC.out.of_no.set (fun _ => HS.out) _⟩
    · go_wp2_with (go_at_call 45; refine (pod_at _ S p v _ made HL.out _ b q (by omega) (by rw [Int.toNat_natCast]; exact HQ.out)).mono ?_; rintro e w' ⟨rfl, rfl⟩)
      go_ret
      rw [E.out, x1]
      exact ⟨rfl, ⟨v, es, HL.out, rfl⟩, HC.out.of_no⟩
end Go.Proofs.YtdgphoemjeakaaaGreatDoor.A
