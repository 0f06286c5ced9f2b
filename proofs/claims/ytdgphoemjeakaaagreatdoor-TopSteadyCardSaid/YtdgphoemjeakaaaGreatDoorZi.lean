/- TopSteady: as many as the load wants, and they stay. -/
import Derived.Test.YtdgphoemjeakaaaGreatDoorZf
import Derived.Test.YtdgphoemjeakaaaGreatDoorZh
import Derived.Test.YtdgphoemjeakaaaGreatDoorQ07
namespace Go.Proofs.YtdgphoemjeakaaaGreatDoor.Y
open Go.Proofs.YtdgphoemjeakaaaGreatDoor Go.Proofs.YtdgphoemjeakaaaGreatDoor.V

theorem steady_true (k : Nat) (rd : Int) (k1 : 1 ≤ k) (k2 : k ≤ 21) (r0 : 0 ≤ rd) (r1 : rd ≤ 10) : Steady k rd := by
  obtain ⟨r, rfl⟩ : ∃ r : Nat, rd = r := ⟨rd.toNat, by omega⟩
  have hc := List.all_eq_true.1 check_all (k - 1) (List.mem_range.2 (by omega))
  have hc := List.all_eq_true.1 hc r (List.mem_range.2 (by omega))
  rw [Nat.sub_add_cancel k1] at hc
  unfold check at hc
  have ha : (aim k).toNat = aim k := by unfold aim; omega
  have a1 : 1 ≤ (aim k).toNat ∧ (aim k).toNat ≤ 3 := by unfold aim; omega
  split at hc
  · rename_i c hg
    have h0 : Same (1000 * (k : Int)) ((aim k).toNat : Int) (arrives 10 k (V.new 20000 1 10)) := Same.arrives k (Same.new (by omega) _ _ _)
    have hn : (arrives 10 k (V.new 20000 1 10)).now = 0 := arrives_now 10 k _
    obtain ⟨g1, g2, g3⟩ := good_ticks (bu := 20000) a1.1 (by omega) 12 (arrives 10 k (V.new 20000 1 10)) c h0 (by rw [arrives_si, hn]; decide) hg
    unfold still at hc
    simp only [Bool.and_eq_true, decide_eq_true_eq, Bool.not_eq_true', List.all_eq_true, List.isEmpty_iff, beq_iff_eq, List.mem_range] at hc
    obtain ⟨⟨⟨⟨⟨⟨⟨⟨⟨c1, c2⟩, c3⟩, c4⟩, c5⟩, c6⟩, c7⟩, c8⟩, -⟩, -⟩ := hc
    have hS : Still 10 r (1000 * (k : Int)) (aim k).toNat (core (ticks 20000 10 r 12 (arrives 10 k (V.new 20000 1 10)))) := by
      rw [g3]
      exact ⟨c1, c2, c3, c5, c6, c7, a1⟩
    have hnow : (ticks 20000 10 r 12 (arrives 10 k (V.new 20000 1 10))).now = 12 := by
      rw [ticks_now, hn]
      rfl
    intro i _
    have e : V.ticks 20000 10 r i (V.ticks 20000 10 r 600 (V.arrives 10 k (V.new 20000 1 10))) = ticks 20000 10 r (i + 588) (ticks 20000 10 r 12 (arrives 10 k (V.new 20000 1 10))) := by
      rw [← ticks_add, ← ticks_add]
    rw [e]
    obtain ⟨-, s2, s3, s4⟩ := still_ticks (bu := 20000) (i + 588) _ g1 hS (by rw [hnow]; decide) (by rw [hnow] at g2; exact g2)
    obtain ⟨s5, s6, s7⟩ := s4 (by omega)
    rw [hnow] at s7
    clear e hg h0 hn hnow hS
    generalize ticks 20000 10 r 12 (arrives 10 k (V.new 20000 1 10)) = T at *
    generalize ticks 20000 10 r (i + 588) T = u at *
    have hneg : ¬ 0 ≤ u.si := fun h => by
      have := s7 h
      omega
    have hrs : u.rs = (core T).rs := congrArg Core.rs s2
    have hq : u.q = (core T).q := congrArg Core.q s2
    rw [g3] at hrs hq
    refine ⟨⟨?_, ?_, ?_⟩, fun _ => ?_⟩
    · rw [s6, decide_eq_false hneg]
    · rw [s5, ha]
      rfl
    · rw [hrs, c4]
    · rw [hq, c1]
      rfl
  · cases hc

/-- TopSteady returns true. -/
theorem steady_any (n r : Int) (w : World) : Calls Tryz.prog 4 #[.int .i64 n, .int .i64 r] w fun e w' => e = .returned (.bool true) ∧ K.Chg K.No w w' := steady_walk Go.Proofs.YtdgphoemjeakaaaGreatDoor.W.may_any steady_true n r w
end Go.Proofs.YtdgphoemjeakaaaGreatDoor.Y
