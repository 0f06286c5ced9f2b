/- The plain law of picking: who is least loaded, who is first, how much room there is. -/
import Derived.Test.YtnlfocmmnjgmpaaP
namespace Go.Proofs.Ytnlfocmmnjgmpaa.Pq
open Go.Proofs.Ytnlfocmmnjgmpaa.Fl Go.Proofs.Ytnlfocmmnjgmpaa.L Go.Proofs.Ytnlfocmmnjgmpaa.P

theorem less_iff (a b c d : Nat) : less a b c d = true ↔ whole a < whole c ∨ (whole a = whole c ∧ whole b < whole d) := by
  unfold less
  split <;> simp <;> omega
theorem less_not (a b c d : Nat) : less a b c d = false ↔ ¬ (whole a < whole c ∨ (whole a = whole c ∧ whole b < whole d)) := by
  rw [← less_iff]; simp

/-- Has the load at place i room? -/
def Room (zs : List (Nat × Nat)) (m : Int) (i : Nat) : Prop := whole (zs.getD i (0, 0)).1 < m
def Ls (zs : List (Nat × Nat)) (i j : Nat) : Bool := less (zs.getD i (0, 0)).1 (zs.getD i (0, 0)).2 (zs.getD j (0, 0)).1 (zs.getD j (0, 0)).2

theorem ls_iff (zs : List (Nat × Nat)) (i j : Nat) : Ls zs i j = true ↔ whole (zs.getD i (0, 0)).1 < whole (zs.getD j (0, 0)).1 ∨ (whole (zs.getD i (0, 0)).1 = whole (zs.getD j (0, 0)).1 ∧ whole (zs.getD i (0, 0)).2 < whole (zs.getD j (0, 0)).2) := less_iff ..
theorem ls_not (zs : List (Nat × Nat)) (i j : Nat) : Ls zs i j = false ↔ ¬ (whole (zs.getD i (0, 0)).1 < whole (zs.getD j (0, 0)).1 ∨ (whole (zs.getD i (0, 0)).1 = whole (zs.getD j (0, 0)).1 ∧ whole (zs.getD i (0, 0)).2 < whole (zs.getD j (0, 0)).2)) := less_not ..

theorem least_spec (zs : List (Nat × Nat)) (m : Int) (n : Nat) :
    (leastTo zs m n = -1 ∧ ∀ i, i < n → ¬ Room zs m i) ∨
    (∃ k : Nat, leastTo zs m n = k ∧ k < n ∧ Room zs m k ∧ ∀ i, i < n → Room zs m i → Ls zs i k = false ∧ (i < k → Ls zs k i = true)) := by
  induction n with
  | zero => exact .inl ⟨rfl, fun i h => by omega⟩
  | succ n ih =>
    by_cases hr : Room zs m n
    · rcases ih with ⟨h1, h2⟩ | ⟨k, h1, h2, h3, h4⟩
      · refine .inr ⟨n, least_first hr (by omega), by omega, hr, fun i hi hri => ?_⟩
        by_cases e : i = n
        · subst e; exact ⟨by rw [ls_not]; omega, fun h => by omega⟩
        · exact absurd hri (h2 i (by omega))
      · cases hl : Ls zs n k with
        | true =>
          refine .inr ⟨n, least_turn hr (by rw [h1]; exact hl), by omega, hr, fun i hi hri => ?_⟩
          rw [ls_iff] at hl
          by_cases e : i = n
          · subst e; exact ⟨by rw [ls_not]; omega, fun h => by omega⟩
          · have := (h4 i (by omega) hri).1
            rw [ls_not] at this
            exact ⟨by rw [ls_not]; omega, fun _ => by rw [ls_iff]; omega⟩
        | false =>
          refine .inr ⟨k, by rw [least_stay (by omega) (by rw [h1]; exact hl), h1], by omega, h3, fun i hi hri => ?_⟩
          by_cases e : i = n
          · subst e; exact ⟨hl, fun h => by omega⟩
          · exact h4 i (by omega) hri
    · rcases ih with ⟨h1, h2⟩ | ⟨k, h1, h2, h3, h4⟩
      · refine .inl ⟨by rw [least_keep hr, h1], fun i hi => ?_⟩
        by_cases e : i = n
        · subst e; exact hr
        · exact h2 i (by omega)
      · refine .inr ⟨k, by rw [least_keep hr, h1], by omega, h3, fun i hi hri => ?_⟩
        by_cases e : i = n
        · subst e; exact absurd hri hr
        · exact h4 i (by omega) hri

theorem first_spec (zs : List (Nat × Nat)) (m : Int) (d k : Nat) :
    (firstFrom zs m k d = -1 ∧ ∀ i, k ≤ i → i < k + d → ¬ Room zs m i) ∨
    (∃ f : Nat, firstFrom zs m k d = f ∧ k ≤ f ∧ f < k + d ∧ Room zs m f ∧ ∀ i, k ≤ i → i < f → ¬ Room zs m i) := by
  induction d generalizing k with
  | zero => exact .inl ⟨rfl, fun i h h' => by omega⟩
  | succ d ih =>
    by_cases hr : Room zs m k
    · exact .inr ⟨k, first_hit hr, by omega, by omega, hr, fun i h h' => by omega⟩
    · rw [first_miss hr]
      rcases ih (k + 1) with ⟨h1, h2⟩ | ⟨f, h1, h2, h3, h4, h5⟩
      · refine .inl ⟨h1, fun i h h' => ?_⟩
        by_cases e : i = k
        · subst e; exact hr
        · exact h2 i (by omega) (by omega)
      · refine .inr ⟨f, h1, by omega, by omega, h4, fun i h h' => ?_⟩
        by_cases e : i = k
        · subst e; exact hr
        · exact h5 i (by omega) h'

theorem spare_room {zs : List (Nat × Nat)} {m : Int} {k : Nat} (hm : 0 ≤ m ∧ m ≤ 1099511627776) (h : Room zs m k) : spareTo zs m (k + 1) = spareTo zs m k + (m - whole (zs.getD k (0, 0)).1) := by
  unfold Room at h
  rw [spareTo, cut_in hm.1 hm.2]; omega
theorem spare_full {zs : List (Nat × Nat)} {m : Int} {k : Nat} (hm : 0 ≤ m ∧ m ≤ 1099511627776) (h : ¬ Room zs m k) : spareTo zs m (k + 1) = spareTo zs m k := by
  unfold Room at h
  rw [spareTo, cut_in hm.1 hm.2]; omega

theorem spare_spec {zs : List (Nat × Nat)} {m : Int} (hm : 0 ≤ m ∧ m ≤ 1099511627776) (n : Nat) :
    0 ≤ spareTo zs m n ∧ (spareTo zs m n = 0 → ∀ i, i < n → ¬ Room zs m i) ∧ ((∀ i, i < n → ¬ Room zs m i) → spareTo zs m n = 0) := by
  induction n with
  | zero => exact ⟨by simp [spareTo], fun _ i h => by omega, fun _ => rfl⟩
  | succ n ih =>
    obtain ⟨a, b, c⟩ := ih
    by_cases hr : Room zs m n
    · have e := spare_room hm hr
      have hr' := hr
      unfold Room at hr'
      refine ⟨by omega, fun h => by omega, fun h => absurd hr (h n (by omega))⟩
    · have e := spare_full hm hr
      refine ⟨by omega, fun h i hi => ?_, fun h => by rw [e]; exact c fun i hi => h i (by omega)⟩
      by_cases e' : i = n
      · subst e'; exact hr
      · exact b (by omega) i (by omega)

end Go.Proofs.Ytnlfocmmnjgmpaa.Pq
