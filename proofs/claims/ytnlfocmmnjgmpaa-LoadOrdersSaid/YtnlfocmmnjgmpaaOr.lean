/- LoadOrders. -/
import Derived.Test.YtnlfocmmnjgmpaaL2
namespace Go.Proofs.Ytnlfocmmnjgmpaa.Or
open Go.RowKit Go.Proofs.Ytnlfocmmnjgmpaa.Fl Go.Proofs.Ytnlfocmmnjgmpaa.L Go.Proofs.Ytnlfocmmnjgmpaa.L2

theorem less_true {a b c d : Int} (h : lessZ a b c d = true) : a < c ∨ (a = c ∧ b < d) := by
  unfold lessZ at h
  split at h <;> simp at h <;> omega
theorem less_of {a b c d : Int} (h : a < c ∨ (a = c ∧ b < d)) : lessZ a b c d = true := by
  unfold lessZ
  split <;> simp <;> omega
theorem less_off {a b c d : Int} (h : ¬ (a < c ∨ (a = c ∧ b < d))) : lessZ a b c d = false := by
  unfold lessZ
  split <;> simp <;> omega

theorem body (a0 : Int) (a1 : Int) (a2 : Int) (p0 q0 p1 q1 p2 q2 : Int) (w : World) (i0 : In p0) (j0 : In q0) (i1 : In p1) (j1 : In q1) (i2 : In p2) (j2 : In q2)
    (X0 : bits .and .i64 a0 3 = p0) (Y0 : bits .and .i64 (a0 / 4) 3 = q0) (X1 : bits .and .i64 a1 3 = p1) (Y1 : bits .and .i64 (a1 / 4) 3 = q1) (X2 : bits .and .i64 a2 3 = p2) (Y2 : bits .and .i64 (a2 / 4) 3 = q2)
    (xy yx al : Bool) (hxy : lessZ p0 q0 p1 q1 = xy) (hyx : lessZ p1 q1 p0 q0 = yx)
    (hal : ∀ w, Calls Try.prog 22 #[.complex .f64 (fl p0) (fl q0), .complex .f64 (fl p1) (fl q1)] w fun e w' => e = .returned (.bool al) ∧ w = w')
    (one : (xy = true ∧ yx = false ∧ al = false) ∨ (xy = false ∧ yx = true ∧ al = false) ∨ (xy = false ∧ yx = false ∧ al = true))
    (yz xz : Bool) (hyz : lessZ p1 q1 p2 q2 = yz) (hxz : lessZ p0 q0 p2 q2 = xz) (tr : (!xy || !yz || xz) = true) :
    Calls Try.prog 4 #[.int .i64 a0, .int .i64 a1, .int .i64 a2] w fun e w' => e = .returned (.bool true) ∧ Below w.heap.size w w' := by
  have H := Lib.hid hal
  clear hal
  rcases one with ⟨rfl, rfl, rfl⟩ | ⟨rfl, rfl, rfl⟩ | ⟨rfl, rfl, rfl⟩
  all_goals
    cases yz <;> cases xz
  all_goals first | (exfalso; revert tr; decide; done) | skip
  all_goals
    clear tr
    go_enter Try.func4, Try.ntmps4
    go_wp2_with (first | (go_at_call 19; refine (of_in _ _ _ (by assumption) (by assumption)).mono ?_; rintro e w' ⟨rfl, rfl⟩) | (go_at_call 21; refine (told_any _).mono ?_; rintro e w1 ⟨rfl, hb⟩) | (go_at_call 22; refine (H.out _).mono ?_; rintro e w' ⟨rfl, rfl⟩) | (go_at_call 26; ((with_reducible refine (less_in _ _ _ _ _ ?_ ?_ ?_ ?_).mono ?_) <;> first | assumption | skip); rintro e w' ⟨rfl, rfl⟩))
    go_ret
    exact ⟨rfl, hb⟩

theorem walk (a0 : Int) (a1 : Int) (a2 : Int) (w : World) :
    Calls Try.prog 4 #[.int .i64 a0, .int .i64 a1, .int .i64 a2] w fun e w' => e = .returned (.bool true) ∧ Below w.heap.size w w' := by
  obtain ⟨p0, u0, v0, X0⟩ := and_mask a0 3 (by omega) (by omega)
  obtain ⟨p1, u1, v1, X1⟩ := and_mask a1 3 (by omega) (by omega)
  obtain ⟨p2, u2, v2, X2⟩ := and_mask a2 3 (by omega) (by omega)
  obtain ⟨q0, s0, t0, Y0⟩ := and_mask (a0 / 4) 3 (by omega) (by omega)
  obtain ⟨q1, s1, t1, Y1⟩ := and_mask (a1 / 4) 3 (by omega) (by omega)
  obtain ⟨q2, s2, t2, Y2⟩ := and_mask (a2 / 4) 3 (by omega) (by omega)
  have i0 : In p0 := ⟨by omega, by omega⟩
  have i1 : In p1 := ⟨by omega, by omega⟩
  have i2 : In p2 := ⟨by omega, by omega⟩
  have j0 : In q0 := ⟨by omega, by omega⟩
  have j1 : In q1 := ⟨by omega, by omega⟩
  have j2 : In q2 := ⟨by omega, by omega⟩
  have tr : (!lessZ p0 q0 p1 q1 || !lessZ p1 q1 p2 q2 || lessZ p0 q0 p2 q2) = true := by
    by_cases h1 : lessZ p0 q0 p1 q1 = true
    · by_cases h2 : lessZ p1 q1 p2 q2 = true
      · have l1 := less_true h1
        have l2 := less_true h2
        rw [less_of (a := p0) (b := q0) (c := p2) (d := q2) (by omega)]
        simp
      · simp [h2]
    · simp [h1]
  by_cases e : p0 = p1 ∧ q0 = q1
  · obtain ⟨rfl, rfl⟩ := e
    exact body a0 a1 a2 p0 q0 p0 q0 p2 q2 w i0 j0 i0 j0 i2 j2 X0 Y0 X1 Y1 X2 Y2 false false true (less_off (by omega)) (less_off (by omega)) (fun w => alike_same p0 q0 w i0 j0) (.inr (.inr ⟨rfl, rfl, rfl⟩)) _ _ rfl rfl rfl
  · by_cases l : p0 < p1 ∨ (p0 = p1 ∧ q0 < q1)
    · rw [less_of l] at tr
      exact body a0 a1 a2 p0 q0 p1 q1 p2 q2 w i0 j0 i1 j1 i2 j2 X0 Y0 X1 Y1 X2 Y2 true false false (less_of l) (less_off (by omega)) (fun w => alike_not p0 q0 p1 q1 w i0 j0 i1 j1 e) (.inl ⟨rfl, rfl, rfl⟩) _ _ rfl rfl tr
    · exact body a0 a1 a2 p0 q0 p1 q1 p2 q2 w i0 j0 i1 j1 i2 j2 X0 Y0 X1 Y1 X2 Y2 false true false (less_off l) (less_of (by omega)) (fun w => alike_not p0 q0 p1 q1 w i0 j0 i1 j1 e) (.inr (.inl ⟨rfl, rfl, rfl⟩)) _ _ rfl rfl rfl
end Go.Proofs.Ytnlfocmmnjgmpaa.Or
