/- 'told' of layer 7 answers true. -/
import Derived.Test.YtnlfocmmnjgmpaaB
namespace Go.Proofs.Ytnlfocmmnjgmpaa.B7
open Go.RowKit Go.Proofs.Ytnlfocmmnjgmpaa.Fl Go.Proofs.Ytnlfocmmnjgmpaa.L Go.Proofs.Ytnlfocmmnjgmpaa.B

theorem st_lit {a b l d : Int} (h : 0 ≤ a ∧ a ≤ 1000 ∧ 0 ≤ b ∧ b ≤ 1000 ∧ 0 ≤ l ∧ l ≤ 1000 ∧ 0 ≤ d ∧ d ≤ 1000) : St a b l d := ⟨⟨h.1, h.2.1⟩, ⟨h.2.2.1, h.2.2.2.1⟩, ⟨h.2.2.2.2.1, h.2.2.2.2.2.1⟩, h.2.2.2.2.2.2.1, h.2.2.2.2.2.2.2⟩

set_option maxHeartbeats 2000000 in
theorem told_any (w : World) : Calls Try.prog 36 #[] w fun e w' => e = .returned (.bool true) ∧ Below w.heap.size w w' := by
  go_enter Try.func36, Try.ntmps36
  go_wp2_with fail
  refine (new_yes 1 1 _ (by unfold May; omega)).mono ?_
  rintro e w0 ⟨rfl, h0, hw⟩
  have hb0 : Below w.heap.size w w0 := by rw [hw]; exact (Below.refl _ _).alloc (Nat.le_refl _) _
  have hs0 : w.heap.size ≤ w0.heap.size := by rw [hw]; simp
  clear hw
  go_wp2_with fail
  refine (enter_in _ 0 0 1 1 _ h0 (st_lit (by omega)) (by omega)).mono ?_
  rintro e w1 ⟨rfl, h1, g1⟩
  go_wp2_with fail
  refine (enter_wait _ (0 + 1) 0 1 1 _ h1 (st_lit (by omega)) (by omega) (by omega)).mono ?_
  rintro e w2 ⟨rfl, h2, g2⟩
  go_wp2_with fail
  refine (enter_full _ (0 + 1) (0 + 1) 1 1 _ h2 (st_lit (by omega)) (by omega) (by omega)).mono ?_
  rintro e w3 ⟨rfl, h3, g3⟩
  go_wp2_with fail
  have L4 := leave_some _ 1 1 1 1 _ h3 (st_lit (by omega)) (by omega)
  rw [show inN (1 - 1) 1 1 = 1 from by decide] at L4
  refine L4.mono ?_
  rintro e w4 ⟨rfl, h4, g4⟩
  go_wp2_with fail
  refine (load_any _ _ _ _ _ _ h4).mono ?_
  rintro e w' ⟨rfl, rfl⟩
  go_wp2_with fail
  have L5 := limit_yes _ 1 0 1 1 0 _ h4 (st_lit (by omega)) (by omega) (by omega)
  rw [show inN 1 0 0 = 0 from by decide] at L5
  refine L5.mono ?_
  rintro e w5 ⟨rfl, h5, g5⟩
  go_wp2_with fail
  have L6 := leave_some _ 1 0 0 1 _ h5 (st_lit (by omega)) (by omega)
  rw [show inN (1 - 1) 0 0 = 0 from by decide] at L6
  refine L6.mono ?_
  rintro e w6 ⟨rfl, h6, g6⟩
  go_wp2_with fail
  refine (leave_none _ 0 0 0 1 _ h6 (st_lit (by omega)) (by omega)).mono ?_
  rintro e w7 ⟨rfl, h7, g7⟩
  go_wp2_with fail
  refine (quit_none _ 0 0 0 1 _ h7 (st_lit (by omega)) (by omega)).mono ?_
  rintro e w8 ⟨rfl, h8, g8⟩
  have hB : Below w.heap.size w w8 := below_of_grown hb0 (grown_trans (grown_trans (grown_trans (grown_trans (grown_trans (grown_trans (grown_trans g1 g2) g3) g4) g5) g6) g7) g8) (Nat.le_refl _) hs0
  have o1 : (FloatKind.f64.format.order (fl 1) 4607182418800017408 == some .eq) = true := by decide +kernel
  have o2 : (FloatKind.f64.format.order (fl 0) 0 == some .eq) = true := by decide +kernel
  clear L4 L5 L6
  have F := Lib.hid (free_any _ 0 0 0 1 _ h8 (st_lit (by omega)))
  go_wp2_with (first | (go_at_call 33; refine (nil_enter _).mono ?_; rintro e w' ⟨rfl, rfl⟩) | (go_at_call 37; ((with_reducible refine F.out.mono ?_); rintro e w' ⟨rfl, n, rfl⟩)) | (go_at_call 32; refine (new_no _ _ _ (by unfold May; omega)).mono ?_; rintro e w' ⟨rfl, rfl⟩) | (go_at_call 37; refine (nil_free _).mono ?_; rintro e w' ⟨rfl, rfl⟩))
  go_ret
  exact ⟨rfl, below_drewN hB _⟩
end Go.Proofs.Ytnlfocmmnjgmpaa.B7
