/- What the functions of package load give, as functions on whole numbers and on the bits of the parts. -/
import Derived.Test.YtnlfocmmnjgmpaaProg
import Derived.Test.YtnlfocmmnjgmpaaFl
import Derived.WalkKit
import Derived.WalkSpells
import Derived.WalkLawsBesides
import Derived.BigQuiet
import Derived.Deep.QuietTactic
import Derived.Lib.Hide
namespace Go.Proofs.Ytnlfocmmnjgmpaa.L
open Go.RowKit Go.Proofs.Ytnlfocmmnjgmpaa.Fl

set_option maxHeartbeats 400000 in
theorem whole_no (x : Nat) (w : World) (h : (Ieee.double.order x 0 == some .gt) = false) :
    Calls Try.prog 58 #[.float .f64 x] w fun e w' => e = .returned (.int .i64 0) ∧ w = w' := by
  have h1 : (FloatKind.f64.format.order x 0 == some .gt) = false := h
  clear h
  go_enter Try.func58, Try.ntmps58
  go_wp2
  go_ret
  exact ⟨rfl, rfl⟩

set_option maxHeartbeats 400000 in
theorem whole_top (x : Nat) (w : World) (h : (Ieee.double.order x 0 == some .gt) = true) (h' : (Ieee.double.order x topBits == some .gt) = true) :
    Calls Try.prog 58 #[.float .f64 x] w fun e w' => e = .returned (.int .i64 1099511627776) ∧ w = w' := by
  have h1 : (FloatKind.f64.format.order x 0 == some .gt) = true := h
  have h2 : (FloatKind.f64.format.order x 4787326403894837248 == some .gt) = true := h'
  clear h h'
  go_enter Try.func58, Try.ntmps58
  go_wp2
  go_ret
  exact ⟨rfl, rfl⟩

set_option maxHeartbeats 400000 in
theorem whole_int (x : Nat) (n : Int) (w : World) (h : (Ieee.double.order x 0 == some .gt) = true) (h' : (Ieee.double.order x topBits == some .gt) = false) (hn : floatToIntVal .f64 x .i64 = some n) :
    Calls Try.prog 58 #[.float .f64 x] w fun e w' => e = .returned (.int .i64 n) ∧ w = w' := by
  have h1 : (FloatKind.f64.format.order x 0 == some .gt) = true := h
  have h2 : (FloatKind.f64.format.order x 4787326403894837248 == some .gt) = false := h'
  have h3 : ∀ w : World, (convert 36 3 (.float .f64 x)).run Try.prog w = .ok (.int .i64 n) w := fun w => run_convert_float_int w 36 3 .f64 .i64 x n (by kernel_rfl) (by kernel_rfl) hn
  clear h h' hn
  go_enter Try.func58, Try.ntmps58
  go_wp2
  go_ret
  exact ⟨rfl, rfl⟩

theorem whole_any (x : Nat) (w : World) : Calls Try.prog 58 #[.float .f64 x] w fun e w' => e = .returned (.int .i64 (whole x)) ∧ w = w' := by
  by_cases h : (Ieee.double.order x 0 == some .gt) = true
  · by_cases h' : (Ieee.double.order x topBits == some .gt) = true
    · rw [Fl.whole_top h']; exact whole_top x w h h'
    · simp only [Bool.not_eq_true] at h'
      exact whole_int x _ w h h' (Fl.whole_int h h')
  · simp only [Bool.not_eq_true] at h
    rw [Fl.whole_no h]; exact whole_no x w h

set_option maxHeartbeats 400000 in
theorem busy_any (x y : Nat) (w : World) : Calls Try.prog 23 #[.complex .f64 x y] w fun e w' => e = .returned (.int .i64 (whole x)) ∧ w = w' := by
  go_enter Try.func23, Try.ntmps23
  go_wp2_with (go_at_call 58; refine (whole_any _ _).mono ?_; rintro e w' ⟨rfl, rfl⟩)
  go_ret
  exact ⟨rfl, rfl⟩

set_option maxHeartbeats 400000 in
theorem waiting_any (x y : Nat) (w : World) : Calls Try.prog 24 #[.complex .f64 x y] w fun e w' => e = .returned (.int .i64 (whole y)) ∧ w = w' := by
  go_enter Try.func24, Try.ntmps24
  go_wp2_with (go_at_call 58; refine (whole_any _ _).mono ?_; rintro e w' ⟨rfl, rfl⟩)
  go_ret
  exact ⟨rfl, rfl⟩

theorem underlying3 : (Try.prog.underlying 3).isSome = true := by kernel_rfl
theorem underlying36 : Try.prog.underlying 36 = some (.float .f64) := by kernel_rfl
theorem tofloat (n : Int) (w : World) : (convert 3 36 (.int .i64 n)).run Try.prog w = .ok (.float .f64 (fl n)) w := run_convert_int_float w 3 36 .i64 .f64 n underlying3 underlying36

theorem ret_cx {a a' b b' : Int} (h : a = a') (h' : b = b') : Ending.returned (.complex .f64 (fl a) (fl b)) = .returned (.complex .f64 (fl a') (fl b')) := by rw [h, h']
theorem ret_cx2 {a a' b b' : Int} {v : Value} (h : a = a') (h' : b = b') : Ending.returned (.tuple #[.complex .f64 (fl a) (fl b), v]) = .returned (.tuple #[.complex .f64 (fl a') (fl b'), v]) := by rw [h, h']
theorem ret_int {k : IntKind} {a b : Int} (h : a = b) : Ending.returned (.int k a) = .returned (.int k b) := by rw [h]
theorem ret_bool {a b : Bool} (h : a = b) : Ending.returned (.bool a) = .returned (.bool b) := by rw [h]

set_option maxHeartbeats 400000 in
theorem of_any (a b : Int) (w : World) : Calls Try.prog 19 #[.int .i64 a, .int .i64 b] w fun e w' => e = .returned (.complex .f64 (fl (cut a)) (fl (cut b))) ∧ w = w' := by
  have hc := tofloat
  go_enter Try.func19, Try.ntmps19
  go_wp2
  all_goals
    go_ret
    exact ⟨ret_cx (by unfold cut; omega) (by unfold cut; omega), rfl⟩

set_option maxHeartbeats 400000 in
theorem swap_any (x y : Nat) (w : World) : Calls Try.prog 25 #[.complex .f64 x y] w fun e w' => e = .returned (.complex .f64 (fl (whole y)) (fl (whole x))) ∧ w = w' := by
  have hx := whole_bd x
  have hy := whole_bd y
  go_enter Try.func25, Try.ntmps25
  go_wp2_with (first | (go_at_call 23; refine (busy_any _ _ _).mono ?_; rintro e w' ⟨rfl, rfl⟩) | (go_at_call 24; refine (waiting_any _ _ _).mono ?_; rintro e w' ⟨rfl, rfl⟩) | (go_at_call 19; refine (of_any _ _ _).mono ?_; rintro e w' ⟨rfl, rfl⟩))
  go_ret
  exact ⟨ret_cx (cut_in hy.1 hy.2) (cut_in hx.1 hx.2), rfl⟩

def less (a b c d : Nat) : Bool := if whole a = whole c then decide (whole b < whole d) else decide (whole a < whole c)

set_option maxHeartbeats 400000 in
theorem less_any (a b c d : Nat) (w : World) : Calls Try.prog 26 #[.complex .f64 a b, .complex .f64 c d] w fun e w' => e = .returned (.bool (less a b c d)) ∧ w = w' := by
  by_cases h : whole a = whole c
  · have h1 : (whole a != whole c) = false := by simp [h]
    have hl : less a b c d = decide (whole b < whole d) := by unfold less; rw [if_pos h]
    rw [hl]
    clear h hl
    go_enter Try.func26, Try.ntmps26
    go_wp2_with (first | (go_at_call 23; refine (busy_any _ _ _).mono ?_; rintro e w' ⟨rfl, rfl⟩) | (go_at_call 24; refine (waiting_any _ _ _).mono ?_; rintro e w' ⟨rfl, rfl⟩))
    go_ret
    exact ⟨rfl, rfl⟩
  · have h1 : (whole a != whole c) = true := by simp [h]
    have hl : less a b c d = decide (whole a < whole c) := by unfold less; rw [if_neg h]
    rw [hl]
    clear h hl
    go_enter Try.func26, Try.ntmps26
    go_wp2_with (first | (go_at_call 23; refine (busy_any _ _ _).mono ?_; rintro e w' ⟨rfl, rfl⟩) | (go_at_call 24; refine (waiting_any _ _ _).mono ?_; rintro e w' ⟨rfl, rfl⟩))
    go_ret
    exact ⟨rfl, rfl⟩

/-- May so many be moved? -/
def mayMove (busy waiting n : Int) : Prop := n ≤ waiting ∧ -busy ≤ n ∧ n ≤ 1099511627776 - busy ∧ waiting - 1099511627776 ≤ n

set_option maxHeartbeats 400000 in
theorem move_yes (x y : Nat) (n : Int) (w : World) (h : mayMove (whole x) (whole y) n) : Calls Try.prog 20 #[.complex .f64 x y, .int .i64 n] w fun e w' => e = .returned (.tuple #[.complex .f64 (fl (whole x + n)) (fl (whole y - n)), .int .i64 0]) ∧ w = w' := by
  obtain ⟨h1, h2, h3, h4⟩ := h
  have hx := whole_bd x
  have hy := whole_bd y
  obtain ⟨hx1, hx2⟩ := hx
  obtain ⟨hy1, hy2⟩ := hy
  go_enter Try.func20, Try.ntmps20
  go_wp2_with (first | (go_at_call 23; refine (busy_any _ _ _).mono ?_; rintro e w' ⟨rfl, rfl⟩) | (go_at_call 24; refine (waiting_any _ _ _).mono ?_; rintro e w' ⟨rfl, rfl⟩) | (go_at_call 19; refine (of_any _ _ _).mono ?_; rintro e w' ⟨rfl, rfl⟩))
  go_ret2
  exact ⟨ret_cx2 (cut_in (by omega) (by omega)) (cut_in (by omega) (by omega)), rfl⟩

set_option maxHeartbeats 400000 in
theorem move_no (x y : Nat) (n : Int) (w : World) (hn : -9223372036854775808 ≤ n ∧ n ≤ 9223372036854775807) (h : ¬ mayMove (whole x) (whole y) n) : Calls Try.prog 20 #[.complex .f64 x y, .int .i64 n] w fun e w' => e = .returned (.tuple #[.complex .f64 (fl (whole x)) (fl (whole y)), .int .i64 5]) ∧ w = w' := by
  unfold mayMove at h
  have hx := whole_bd x
  have hy := whole_bd y
  obtain ⟨hx1, hx2⟩ := hx
  obtain ⟨hy1, hy2⟩ := hy
  obtain ⟨hn1, hn2⟩ := hn
  have h' : ((decide (whole y < n) || decide (n < -whole x) || decide (1099511627776 - whole x < n) || decide (n < whole y - 1099511627776)) = true) := by
    simp only [Bool.or_eq_true, decide_eq_true_eq]; omega
  clear h
  go_enter Try.func20, Try.ntmps20
  go_wp2_with (first | (go_at_call 23; refine (busy_any _ _ _).mono ?_; rintro e w' ⟨rfl, rfl⟩) | (go_at_call 24; refine (waiting_any _ _ _).mono ?_; rintro e w' ⟨rfl, rfl⟩) | (go_at_call 19; refine (of_any _ _ _).mono ?_; rintro e w' ⟨rfl, rfl⟩))
  all_goals
    go_ret2
    exact ⟨ret_cx2 (cut_in (by omega) (by omega)) (cut_in (by omega) (by omega)), rfl⟩

/-- 'v' is a slice that holds the complex numbers of these parts. -/
def Cx (w : World) (v : Value) (zs : List (Nat × Nat)) : Prop :=
  (∃ c, v = .slice none 0 c ∧ zs = []) ∨
  ∃ b off c, v = .slice (some ⟨b, off, none⟩) zs.length c ∧ ∀ k, k < zs.length → w.cell? ⟨b, off + k, none⟩ = some (.complex .f64 (zs.getD k (0, 0)).1 (zs.getD k (0, 0)).2)

def sumOf (g : Nat × Nat → Nat) (zs : List (Nat × Nat)) : Int := zs.foldl (fun s z => cut (s + whole (g z))) 0

theorem sumOf_bd (g : Nat × Nat → Nat) (zs : List (Nat × Nat)) : 0 ≤ sumOf g zs ∧ sumOf g zs ≤ 1099511627776 := by
  unfold sumOf
  have : ∀ (l : List (Nat × Nat)) (s : Int), 0 ≤ s ∧ s ≤ 1099511627776 → 0 ≤ l.foldl (fun s z => cut (s + whole (g z))) s ∧ l.foldl (fun s z => cut (s + whole (g z))) s ≤ 1099511627776 := by
    intro l
    induction l with
    | nil => intro s h; exact h
    | cons z l ih => intro s _; exact ih _ (cut_bd _)
  exact this zs 0 (by omega)

theorem take_getD (zs : List (Nat × Nat)) (k : Nat) (h : k < zs.length) : zs.take (k + 1) = zs.take k ++ [zs.getD k (0, 0)] := by
  rw [List.take_succ_eq_append_getElem h]
  simp [List.getD, List.getElem?_eq_getElem h]

theorem sumOf_snoc (g : Nat × Nat → Nat) (zs : List (Nat × Nat)) (k : Nat) (h : k < zs.length) : sumOf g (zs.take (k + 1)) = cut (sumOf g (zs.take k) + whole (g (zs.getD k (0, 0)))) := by
  rw [take_getD zs k h]
  unfold sumOf
  rw [List.foldl_append]
  rfl

set_option maxHeartbeats 800000 in
theorem sum_some (b off c : Nat) (zs : List (Nat × Nat)) (w : World) (hlen : zs.length ≤ 8796093022208)
    (hcell : ∀ k, k < zs.length → w.cell? ⟨b, off + k, none⟩ = some (.complex .f64 (zs.getD k (0, 0)).1 (zs.getD k (0, 0)).2)) :
    Calls Try.prog 27 #[.slice (some ⟨b, off, none⟩) zs.length c] w fun e w' => e = .returned (.complex .f64 (fl (sumOf Prod.fst zs)) (fl (sumOf Prod.snd zs))) ∧ w = w' := by
  have HC : Hid (∀ k, k < zs.length → w.cell? ⟨b, off + k, none⟩ = some (.complex .f64 (zs.getD k (0, 0)).1 (zs.getD k (0, 0)).2)) := hcell
  clear hcell
  go_enter Try.func27, Try.ntmps27
  go_wp2_with (first | (go_at_call 19; refine (of_any _ _ _).mono ?_; rintro e w' ⟨rfl, rfl⟩))
  go_loop [3, 9] (fun s i => ∃ k : Nat, k ≤ zs.length ∧ i = .int .i64 k ∧ s = .complex .f64 (fl (sumOf Prod.fst (zs.take k))) (fl (sumOf Prod.snd (zs.take k)))) (fun _ i => zs.length - (intOf i).toNat)
  case atStart => exact ⟨0, Nat.zero_le _, rfl, rfl⟩
  case round =>
    obtain ⟨k, hk, rfl, rfl⟩ := hrel
    obtain ⟨a1, a2⟩ := sumOf_bd Prod.fst (zs.take k)
    obtain ⟨b1, b2⟩ := sumOf_bd Prod.snd (zs.take k)
    by_cases hlt : k < zs.length
    · have hc := HC.out k hlt
      have hs1 := Lib.hid (sumOf_snoc Prod.fst zs k hlt)
      have hs2 := Lib.hid (sumOf_snoc Prod.snd zs k hlt)
      have q1 := Lib.hid (whole_fl a1 a2)
      have q2 := Lib.hid (whole_fl b1 b2)
      obtain ⟨c1, c2⟩ := whole_bd (zs.getD k (0, 0)).1
      obtain ⟨d1, d2⟩ := whole_bd (zs.getD k (0, 0)).2
      generalize hA : sumOf Prod.fst (zs.take k) = A at *
      generalize hB : sumOf Prod.snd (zs.take k) = B at *
      generalize zs.getD k (0, 0) = z at *
      clear hA hB
      obtain ⟨e1, e2⟩ := whole_bd (fl A)
      obtain ⟨f1, f2⟩ := whole_bd (fl B)
      go_wp2_with (first | (go_at_call 23; refine (busy_any _ _ _).mono ?_; rintro e w' ⟨rfl, rfl⟩) | (go_at_call 24; refine (waiting_any _ _ _).mono ?_; rintro e w' ⟨rfl, rfl⟩) | (go_at_call 19; refine (of_any _ _ _).mono ?_; rintro e w' ⟨rfl, rfl⟩))
      go_round
      case rel => exact ⟨k + 1, by omega, by go_num, by rw [hs1.out, hs2.out, q1.out, q2.out]⟩
      case measure => simp [intOf]; omega
    · obtain rfl : k = zs.length := by omega
      go_wp2
      go_ret
      exact ⟨rfl, rfl⟩

set_option maxHeartbeats 400000 in
theorem sum_none (c : Nat) (w : World) :
    Calls Try.prog 27 #[.slice none 0 c] w fun e w' => e = .returned (.complex .f64 (fl 0) (fl 0)) ∧ w = w' := by
  go_enter Try.func27, Try.ntmps27
  go_wp2_with (first | (go_at_call 19; refine (of_any _ _ _).mono ?_; rintro e w' ⟨rfl, rfl⟩))
  go_loop [3, 9] (fun s i => i = .int .i64 0 ∧ s = .complex .f64 (fl 0) (fl 0)) (fun _ _ => 0)
  case atStart => exact ⟨rfl, rfl⟩
  case round =>
    obtain ⟨rfl, rfl⟩ := hrel
    go_wp2
    go_ret
    exact ⟨rfl, rfl⟩

theorem sum_any (v : Value) (zs : List (Nat × Nat)) (w : World) (hlen : zs.length ≤ 8796093022208) (h : Cx w v zs) :
    Calls Try.prog 27 #[v] w fun e w' => e = .returned (.complex .f64 (fl (sumOf Prod.fst zs)) (fl (sumOf Prod.snd zs))) ∧ w = w' := by
  rcases h with ⟨c, rfl, rfl⟩ | ⟨b, off, c, rfl, hc⟩
  · exact sum_none c w
  · exact sum_some b off c zs w hlen hc

/-- 'alike' of whole numbers. -/
theorem alike_any (a b c d : Int) (w : World) (ha : 0 ≤ a ∧ a ≤ 1099511627776) (hb : 0 ≤ b ∧ b ≤ 1099511627776) (hc : 0 ≤ c ∧ c ≤ 1099511627776) (hd : 0 ≤ d ∧ d ≤ 1099511627776) :
    Calls Try.prog 22 #[.complex .f64 (fl a) (fl b), .complex .f64 (fl c) (fl d)] w fun e w' => e = .returned (.bool (decide (a = c) && decide (b = d))) ∧ w = w' := by
  have e1 := eq_fl (m := a) (n := c) (by omega) (by omega) (by omega) (by omega)
  have e2 := eq_fl (m := b) (n := d) (by omega) (by omega) (by omega) (by omega)
  by_cases h1 : a = c
  · subst h1
    rw [decide_eq_true rfl] at e1
    by_cases h2 : b = d
    · subst h2
      rw [decide_eq_true rfl] at e2
      go_enter Try.func22, Try.ntmps22
      go_wp2
      go_ret
      exact ⟨ret_bool (by simp), rfl⟩
    · rw [decide_eq_false h2] at e2
      rw [decide_eq_false h2]
      clear h2
      go_enter Try.func22, Try.ntmps22
      go_wp2
      go_ret
      exact ⟨ret_bool (by simp), rfl⟩
  · rw [decide_eq_false h1] at e1
    rw [decide_eq_false h1]
    clear h1 e2
    go_enter Try.func22, Try.ntmps22
    go_wp2
    go_ret
    exact ⟨ret_bool (by simp), rfl⟩

/-! ### The same of whole numbers from 0 to 2^40 -/
def In (x : Int) : Prop := 0 ≤ x ∧ x ≤ 1099511627776
theorem In.mk {x : Int} (h0 : 0 ≤ x) (h1 : x ≤ 1099511627776) : In x := ⟨h0, h1⟩

theorem of_in (a b : Int) (w : World) (ha : In a) (hb : In b) : Calls Try.prog 19 #[.int .i64 a, .int .i64 b] w fun e w' => e = .returned (.complex .f64 (fl a) (fl b)) ∧ w = w' := by
  have h := of_any a b w
  rwa [cut_in ha.1 ha.2, cut_in hb.1 hb.2] at h
theorem busy_in (a b : Int) (w : World) (ha : In a) : Calls Try.prog 23 #[.complex .f64 (fl a) (fl b)] w fun e w' => e = .returned (.int .i64 a) ∧ w = w' := by
  have h := busy_any (fl a) (fl b) w
  rwa [whole_fl ha.1 ha.2] at h
theorem waiting_in (a b : Int) (w : World) (hb : In b) : Calls Try.prog 24 #[.complex .f64 (fl a) (fl b)] w fun e w' => e = .returned (.int .i64 b) ∧ w = w' := by
  have h := waiting_any (fl a) (fl b) w
  rwa [whole_fl hb.1 hb.2] at h
theorem swap_in (a b : Int) (w : World) (ha : In a) (hb : In b) : Calls Try.prog 25 #[.complex .f64 (fl a) (fl b)] w fun e w' => e = .returned (.complex .f64 (fl b) (fl a)) ∧ w = w' := by
  have h := swap_any (fl a) (fl b) w
  rwa [whole_fl ha.1 ha.2, whole_fl hb.1 hb.2] at h
theorem move_in (a b n : Int) (w : World) (ha : In a) (hb : In b) (h : mayMove a b n) : Calls Try.prog 20 #[.complex .f64 (fl a) (fl b), .int .i64 n] w fun e w' => e = .returned (.tuple #[.complex .f64 (fl (a + n)) (fl (b - n)), .int .i64 0]) ∧ w = w' := by
  have k := move_yes (fl a) (fl b) n w (by rw [whole_fl ha.1 ha.2, whole_fl hb.1 hb.2]; exact h)
  rwa [whole_fl ha.1 ha.2, whole_fl hb.1 hb.2] at k
theorem move_out (a b n : Int) (w : World) (ha : In a) (hb : In b) (hn : -9223372036854775808 ≤ n ∧ n ≤ 9223372036854775807) (h : ¬ mayMove a b n) : Calls Try.prog 20 #[.complex .f64 (fl a) (fl b), .int .i64 n] w fun e w' => e = .returned (.tuple #[.complex .f64 (fl a) (fl b), .int .i64 5]) ∧ w = w' := by
  have k := move_no (fl a) (fl b) n w hn (by rw [whole_fl ha.1 ha.2, whole_fl hb.1 hb.2]; exact h)
  rwa [whole_fl ha.1 ha.2, whole_fl hb.1 hb.2] at k
/-- 'Less' of whole numbers. -/
def lessZ (a b c d : Int) : Bool := if a = c then decide (b < d) else decide (a < c)
theorem less_in (a b c d : Int) (w : World) (ha : In a) (hb : In b) (hc : In c) (hd : In d) : Calls Try.prog 26 #[.complex .f64 (fl a) (fl b), .complex .f64 (fl c) (fl d)] w fun e w' => e = .returned (.bool (lessZ a b c d)) ∧ w = w' := by
  have h := less_any (fl a) (fl b) (fl c) (fl d) w
  unfold less at h
  rwa [whole_fl ha.1 ha.2, whole_fl hb.1 hb.2, whole_fl hc.1 hc.2, whole_fl hd.1 hd.2] at h
theorem alike_in (a b c d : Int) (w : World) (ha : In a) (hb : In b) (hc : In c) (hd : In d) : Calls Try.prog 22 #[.complex .f64 (fl a) (fl b), .complex .f64 (fl c) (fl d)] w fun e w' => e = .returned (.bool (decide (a = c) && decide (b = d))) ∧ w = w' := alike_any a b c d w ha hb hc hd
theorem alike_same (a b : Int) (w : World) (ha : In a) (hb : In b) : Calls Try.prog 22 #[.complex .f64 (fl a) (fl b), .complex .f64 (fl a) (fl b)] w fun e w' => e = .returned (.bool true) ∧ w = w' := by
  have h := alike_any a b a b w ha hb ha hb
  simpa using h
theorem alike_not (a b c d : Int) (w : World) (ha : In a) (hb : In b) (hc : In c) (hd : In d) (h : ¬ (a = c ∧ b = d)) : Calls Try.prog 22 #[.complex .f64 (fl a) (fl b), .complex .f64 (fl c) (fl d)] w fun e w' => e = .returned (.bool false) ∧ w = w' := by
  have k := alike_any a b c d w ha hb hc hd
  have e : (decide (a = c) && decide (b = d)) = false := by
    simp only [Bool.and_eq_false_iff, decide_eq_false_iff_not]; omega
  rwa [e] at k

/-- 'a & m'. -/
theorem and_mask (a m : Int) (h0 : 0 ≤ m) (h : m ≤ 9223372036854775807) : ∃ x, 0 ≤ x ∧ x ≤ m ∧ bits .and .i64 a m = x := by
  have e : (BitVec.ofInt 64 m).toNat = m.toNat := by
    rw [BitVec.toNat_ofInt]; omega
  have l : (BitVec.ofInt 64 a &&& BitVec.ofInt 64 m).toNat ≤ m.toNat := by
    rw [BitVec.toNat_and, e]; exact Nat.and_le_right
  refine ⟨((BitVec.ofInt 64 a &&& BitVec.ofInt 64 m).toNat : Int), by omega, by omega, ?_⟩
  show IntKind.i64.wrap ((BitVec.ofInt 64 a &&& BitVec.ofInt 64 m).toNat : Int) = _
  rw [IntKind.wrap_i64]
  omega

/-- 'int(uint(a) % m)'. -/
theorem umod (a m : Int) (h0 : 0 < m) (h : m ≤ 9223372036854775807) : ∃ x, 0 ≤ x ∧ x < m ∧ wrap64 ((IntKind.u64.wrap a).tmod m) = x := by
  have e : IntKind.u64.wrap a = a % 18446744073709551616 := by simp [IntKind.wrap, IntKind.signed, IntKind.bits]
  have p : 0 ≤ IntKind.u64.wrap a := by rw [e]; omega
  have q1 := Int.emod_nonneg (IntKind.u64.wrap a) (b := m) (by omega)
  have q2 := Int.emod_lt_of_pos (IntKind.u64.wrap a) h0
  refine ⟨(IntKind.u64.wrap a) % m, q1, q2, ?_⟩
  rw [Int.tmod_eq_emod_of_nonneg p]
  unfold wrap64
  omega

theorem tmod_bd (a m : Int) (h0 : 0 < m) : ∃ x, -m < x ∧ x < m ∧ a.tmod m = x := by
  refine ⟨a.tmod m, ?_, ?_, rfl⟩
  · have := Int.lt_tmod_of_pos a h0; omega
  · exact Int.tmod_lt_of_pos a h0

end Go.Proofs.Ytnlfocmmnjgmpaa.L
