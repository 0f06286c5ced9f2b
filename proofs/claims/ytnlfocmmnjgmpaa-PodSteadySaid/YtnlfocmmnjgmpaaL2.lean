/- 'told' of layer 2 answers true. -/
import Derived.Test.YtnlfocmmnjgmpaaL
namespace Go.Proofs.Ytnlfocmmnjgmpaa.L2
open Go.RowKit Go.Proofs.Ytnlfocmmnjgmpaa.Fl Go.Proofs.Ytnlfocmmnjgmpaa.L

theorem of1 (w : World) : Calls Try.prog 19 #[.int .i64 3, .int .i64 2] w fun e w' => e = .returned (.complex .f64 4613937818241073152 4611686018427387904) ∧ w = w' := by
  have h := of_any 3 2 w
  rwa [show fl (cut 3) = 4613937818241073152 from by decide +kernel, show fl (cut 2) = 4611686018427387904 from by decide +kernel] at h
theorem of2 (w : World) : Calls Try.prog 19 #[.int .i64 (-4), .int .i64 1125899906842624] w fun e w' => e = .returned (.complex .f64 0 4787326403894837248) ∧ w = w' := by
  have h := of_any (-4) 1125899906842624 w
  rwa [show fl (cut (-4)) = 0 from by decide +kernel, show fl (cut 1125899906842624) = 4787326403894837248 from by decide +kernel] at h
theorem mv1 (w : World) : Calls Try.prog 20 #[.complex .f64 4613937818241073152 4611686018427387904, .int .i64 2] w fun e w' => e = .returned (.tuple #[.complex .f64 4617315517961601024 0, .int .i64 0]) ∧ w = w' := by
  have h := move_yes 4613937818241073152 4611686018427387904 2 w (by unfold mayMove; decide +kernel)
  rwa [show fl (whole 4613937818241073152 + 2) = 4617315517961601024 from by decide +kernel, show fl (whole 4611686018427387904 - 2) = 0 from by decide +kernel] at h
theorem mv2 (w : World) : Calls Try.prog 20 #[.complex .f64 4613937818241073152 4611686018427387904, .int .i64 3] w fun e w' => e = .returned (.tuple #[.complex .f64 4613937818241073152 4611686018427387904, .int .i64 5]) ∧ w = w' := by
  have h := move_no 4613937818241073152 4611686018427387904 3 w (by omega) (by unfold mayMove; decide +kernel)
  rwa [show fl (whole 4613937818241073152) = 4613937818241073152 from by decide +kernel, show fl (whole 4611686018427387904) = 4611686018427387904 from by decide +kernel] at h
theorem mv3 (w : World) : Calls Try.prog 20 #[.complex .f64 4613937818241073152 4611686018427387904, .int .i64 (-3)] w fun e w' => e = .returned (.tuple #[.complex .f64 0 4617315517961601024, .int .i64 0]) ∧ w = w' := by
  have h := move_yes 4613937818241073152 4611686018427387904 (-3) w (by unfold mayMove; decide +kernel)
  rwa [show fl (whole 4613937818241073152 + (-3)) = 0 from by decide +kernel, show fl (whole 4611686018427387904 - (-3)) = 4617315517961601024 from by decide +kernel] at h
theorem bs1 (w : World) : Calls Try.prog 23 #[.complex .f64 4613937818241073152 4611686018427387904] w fun e w' => e = .returned (.int .i64 3) ∧ w = w' := by
  have h := busy_any 4613937818241073152 4611686018427387904 w
  rwa [show whole 4613937818241073152 = 3 from by decide +kernel] at h
theorem bs2 (w : World) : Calls Try.prog 23 #[.complex .f64 13836183955189006336 0] w fun e w' => e = .returned (.int .i64 0) ∧ w = w' := by
  have h := busy_any 13836183955189006336 0 w
  rwa [show whole 13836183955189006336 = 0 from by decide +kernel] at h
theorem wt1 (w : World) : Calls Try.prog 24 #[.complex .f64 4613937818241073152 4611686018427387904] w fun e w' => e = .returned (.int .i64 2) ∧ w = w' := by
  have h := waiting_any 4613937818241073152 4611686018427387904 w
  rwa [show whole 4611686018427387904 = 2 from by decide +kernel] at h
theorem sw1 (w : World) : Calls Try.prog 25 #[.complex .f64 4613937818241073152 4611686018427387904] w fun e w' => e = .returned (.complex .f64 4611686018427387904 4613937818241073152) ∧ w = w' := by
  have h := swap_any 4613937818241073152 4611686018427387904 w
  rwa [show fl (whole 4613937818241073152) = 4613937818241073152 from by decide +kernel, show fl (whole 4611686018427387904) = 4611686018427387904 from by decide +kernel] at h
theorem ls1 (w : World) : Calls Try.prog 26 #[.complex .f64 4613937818241073152 4611686018427387904, .complex .f64 4617315517961601024 0] w fun e w' => e = .returned (.bool true) ∧ w = w' := by
  have h := less_any 4613937818241073152 4611686018427387904 4617315517961601024 0 w
  rwa [show less 4613937818241073152 4611686018427387904 4617315517961601024 0 = true from by decide +kernel] at h
theorem ls2 (w : World) : Calls Try.prog 26 #[.complex .f64 4617315517961601024 0, .complex .f64 4613937818241073152 4611686018427387904] w fun e w' => e = .returned (.bool false) ∧ w = w' := by
  have h := less_any 4617315517961601024 0 4613937818241073152 4611686018427387904 w
  rwa [show less 4617315517961601024 0 4613937818241073152 4611686018427387904 = false from by decide +kernel] at h
theorem sm1 (b : Nat) (w : World) (h0 : w.cell? ⟨b, 0, none⟩ = some (.complex .f64 4613937818241073152 4611686018427387904)) (h1 : w.cell? ⟨b, 1, none⟩ = some (.complex .f64 4617315517961601024 0)) : Calls Try.prog 27 #[.slice (some ⟨b, 0, none⟩) 2 2] w fun e w' => e = .returned (.complex .f64 4620693217682128896 4611686018427387904) ∧ w = w' := by
  have h := sum_some b 0 2 [(4613937818241073152, 4611686018427387904), (4617315517961601024, 0)] w (by decide) (by
    intro k hk
    match k, hk with
    | 0, _ => exact h0
    | 1, _ => exact h1)
  rwa [show fl (sumOf Prod.fst [(4613937818241073152, 4611686018427387904), (4617315517961601024, 0)]) = 4620693217682128896 from by decide +kernel, show fl (sumOf Prod.snd [(4613937818241073152, 4611686018427387904), (4617315517961601024, 0)]) = 4611686018427387904 from by decide +kernel] at h

set_option maxHeartbeats 1000000 in
theorem told_any (w : World) : Calls Try.prog 21 #[] w fun e w' => e = .returned (.bool true) ∧ Below w.heap.size w w' := by
  have o0 : (FloatKind.f64.format.order 0 0 == some .eq) = true := by decide +kernel
  have o2 : (FloatKind.f64.format.order 4611686018427387904 4611686018427387904 == some .eq) = true := by decide +kernel
  have o3 : (FloatKind.f64.format.order 4613937818241073152 4613937818241073152 == some .eq) = true := by decide +kernel
  have o5 : (FloatKind.f64.format.order 4617315517961601024 4617315517961601024 == some .eq) = true := by decide +kernel
  have o8 : (FloatKind.f64.format.order 4620693217682128896 4620693217682128896 == some .eq) = true := by decide +kernel
  have o1099511627776 : (FloatKind.f64.format.order 4787326403894837248 4787326403894837248 == some .eq) = true := by decide +kernel
  go_enter Try.func21, Try.ntmps21
  go_wp2_with (first | (go_at_call 19; ((with_reducible refine (of1 _).mono ?_); rintro e w' ⟨rfl, rfl⟩)) | (go_at_call 19; ((with_reducible refine (of2 _).mono ?_); rintro e w' ⟨rfl, rfl⟩)) | (go_at_call 20; ((with_reducible refine (mv1 _).mono ?_); rintro e w' ⟨rfl, rfl⟩)) | (go_at_call 20; ((with_reducible refine (mv2 _).mono ?_); rintro e w' ⟨rfl, rfl⟩)) | (go_at_call 20; ((with_reducible refine (mv3 _).mono ?_); rintro e w' ⟨rfl, rfl⟩)) | (go_at_call 23; ((with_reducible refine (bs1 _).mono ?_); rintro e w' ⟨rfl, rfl⟩)) | (go_at_call 23; ((with_reducible refine (bs2 _).mono ?_); rintro e w' ⟨rfl, rfl⟩)) | (go_at_call 24; ((with_reducible refine (wt1 _).mono ?_); rintro e w' ⟨rfl, rfl⟩)) | (go_at_call 25; ((with_reducible refine (sw1 _).mono ?_); rintro e w' ⟨rfl, rfl⟩)) | (go_at_call 26; ((with_reducible refine (ls1 _).mono ?_); rintro e w' ⟨rfl, rfl⟩)) | (go_at_call 26; ((with_reducible refine (ls2 _).mono ?_); rintro e w' ⟨rfl, rfl⟩)))
  refine (sm1 _ _ (by simp) (by simp)).mono ?_
  rintro e w' ⟨rfl, rfl⟩
  go_wp2_with (first | (go_at_call 19; ((with_reducible refine (of1 _).mono ?_); rintro e w' ⟨rfl, rfl⟩)) | (go_at_call 19; ((with_reducible refine (of2 _).mono ?_); rintro e w' ⟨rfl, rfl⟩)) | (go_at_call 20; ((with_reducible refine (mv1 _).mono ?_); rintro e w' ⟨rfl, rfl⟩)) | (go_at_call 20; ((with_reducible refine (mv2 _).mono ?_); rintro e w' ⟨rfl, rfl⟩)) | (go_at_call 20; ((with_reducible refine (mv3 _).mono ?_); rintro e w' ⟨rfl, rfl⟩)) | (go_at_call 23; ((with_reducible refine (bs1 _).mono ?_); rintro e w' ⟨rfl, rfl⟩)) | (go_at_call 23; ((with_reducible refine (bs2 _).mono ?_); rintro e w' ⟨rfl, rfl⟩)) | (go_at_call 24; ((with_reducible refine (wt1 _).mono ?_); rintro e w' ⟨rfl, rfl⟩)) | (go_at_call 25; ((with_reducible refine (sw1 _).mono ?_); rintro e w' ⟨rfl, rfl⟩)) | (go_at_call 26; ((with_reducible refine (ls1 _).mono ?_); rintro e w' ⟨rfl, rfl⟩)) | (go_at_call 26; ((with_reducible refine (ls2 _).mono ?_); rintro e w' ⟨rfl, rfl⟩)))
  go_ret
  exact ⟨rfl, (Below.refl _ _).alloc (Nat.le_refl _) _⟩

end Go.Proofs.Ytnlfocmmnjgmpaa.L2
