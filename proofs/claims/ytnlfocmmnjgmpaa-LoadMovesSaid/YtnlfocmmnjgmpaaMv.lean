/- LoadMoves. -/
import Derived.Test.YtnlfocmmnjgmpaaL2
namespace Go.Proofs.Ytnlfocmmnjgmpaa.Mv
open Go.RowKit Go.Proofs.Ytnlfocmmnjgmpaa.Fl Go.Proofs.Ytnlfocmmnjgmpaa.L Go.Proofs.Ytnlfocmmnjgmpaa.L2

set_option maxHeartbeats 1000000 in
theorem walk (a0 : Int) (a1 : Int) (a2 : Int) (w : World) :
    Calls Try.prog 3 #[.int .i64 a0, .int .i64 a1, .int .i64 a2] w fun e w' => e = .returned (.bool true) ∧ Below w.heap.size w w' := by
  obtain ⟨x, hx0, hx1, hX⟩ := umod a0 1000000 (by omega) (by omega)
  obtain ⟨y, hy0, hy1, hY⟩ := umod a1 1000000 (by omega) (by omega)
  obtain ⟨k, hk0, hk1, hK⟩ := tmod_bd a2 1000000 (by omega)
  have ix : In x := ⟨by omega, by omega⟩
  have iy : In y := ⟨by omega, by omega⟩
  by_cases hm : mayMove x y k
  · obtain ⟨h1, h2, h3, h4⟩ := id hm
    have ixk : In (x + k) := ⟨by omega, by omega⟩
    have iyk : In (y - k) := ⟨by omega, by omega⟩
    have hm' : mayMove (x + k) (y - k) (-k) := by unfold mayMove; omega
    have e1 : x + k + -k = x := by omega
    have e2 : y - k - -k = y := by omega
    have e3 : (x + k + (y - k) == x + y) = true := beq_iff_eq.2 (by omega)
    have m1 := Lib.hid fun w => move_in x y k w ix iy hm
    have m2 := fun w => move_in (x + k) (y - k) (-k) w ixk iyk hm'
    rw [e1, e2] at m2
    have m3 := Lib.hid m2
    clear m2 e1 e2 hm hm'
    go_enter Try.func3, Try.ntmps3
    go_wp2_with (first | (go_at_call 19; refine (of_in _ _ _ ix iy).mono ?_; rintro e w' ⟨rfl, rfl⟩) | (go_at_call 20; ((with_reducible refine (m1.out _).mono ?_); rintro e w' ⟨rfl, rfl⟩)) | (go_at_call 20; ((with_reducible refine (m3.out _).mono ?_); rintro e w' ⟨rfl, rfl⟩)) | (go_at_call 21; refine (told_any _).mono ?_; rintro e w1 ⟨rfl, hb⟩) | (go_at_call 22; refine (alike_same _ _ _ ix iy).mono ?_; rintro e w' ⟨rfl, rfl⟩) | (go_at_call 23; refine (busy_in _ _ _ ixk).mono ?_; rintro e w' ⟨rfl, rfl⟩) | (go_at_call 24; refine (waiting_in _ _ _ iyk).mono ?_; rintro e w' ⟨rfl, rfl⟩) | (go_at_call 25; ((with_reducible refine (swap_in x y _ ix iy).mono ?_); rintro e w' ⟨rfl, rfl⟩)) | (go_at_call 25; ((with_reducible refine (swap_in y x _ iy ix).mono ?_); rintro e w' ⟨rfl, rfl⟩)))
    go_ret
    exact ⟨rfl, hb⟩
  · have e3 : (decide (y < k) || decide (k < -x)) = true := by
      unfold mayMove at hm
      simp only [Bool.or_eq_true, decide_eq_true_eq]; omega
    have m1 := Lib.hid fun w => move_out x y k w ix iy (by omega) hm
    clear hm
    go_enter Try.func3, Try.ntmps3
    go_wp2_with (first | (go_at_call 19; refine (of_in _ _ _ ix iy).mono ?_; rintro e w' ⟨rfl, rfl⟩) | (go_at_call 20; ((with_reducible refine (m1.out _).mono ?_); rintro e w' ⟨rfl, rfl⟩)) | (go_at_call 21; refine (told_any _).mono ?_; rintro e w1 ⟨rfl, hb⟩) | (go_at_call 22; refine (alike_same _ _ _ ix iy).mono ?_; rintro e w' ⟨rfl, rfl⟩))
    all_goals
      go_ret
      exact ⟨rfl, hb⟩
end Go.Proofs.Ytnlfocmmnjgmpaa.Mv
