/- BreakerShrinks. -/
import Derived.Test.YtnlfocmmnjgmpaaB7
namespace Go.Proofs.Ytnlfocmmnjgmpaa.Bs
open Go.RowKit Go.Proofs.Ytnlfocmmnjgmpaa.Fl Go.Proofs.Ytnlfocmmnjgmpaa.L Go.Proofs.Ytnlfocmmnjgmpaa.B Go.Proofs.Ytnlfocmmnjgmpaa.B7

set_option maxRecDepth 100000 in
set_option maxHeartbeats 4000000 in
theorem walk (a0 a1 : Int) (w : World) :
    Calls Try.prog 13 #[.int .i64 a0, .int .i64 a1] w fun e w' => e = .returned (.bool true) ∧ Below w.heap.size w w' := by
  obtain ⟨x, hx0, hx1, hX⟩ := umod a0 20 (by omega) (by omega)
  obtain ⟨y, hy0, hy1, hY⟩ := umod a1 20 (by omega) (by omega)
  go_enter Try.func13, Try.ntmps13
  go_wp2_with fail
  simp only [hX, hY]
  clear hX hY
  obtain ⟨n, hn⟩ : ∃ n, n = 1 + x := ⟨_, rfl⟩
  rw [← hn]
  have n0 : 1 ≤ n := by omega
  have n1 : n ≤ 20 := by omega
  clear hn
  obtain ⟨m, hm⟩ : ∃ m, m = 1 + y := ⟨_, rfl⟩
  rw [← hm]
  have m0 : 1 ≤ m := by omega
  have m1 : m ≤ 20 := by omega
  clear hm
  refine (new_yes n 10 _ (by unfold May; omega)).mono ?_
  rintro e w0 ⟨rfl, h0, hw⟩
  have hb0 : Below w.heap.size w w0 := by rw [hw]; exact (Below.refl _ _).alloc (Nat.le_refl _) _
  have hs0 : w.heap.size ≤ w0.heap.size := by rw [hw]; simp
  clear hw
  go_wp2_with fail
  go_loopw [8] (fun i wr => ∃ j a b : Int, 0 ≤ j ∧ j ≤ n + 10 ∧ i = .int .i64 j ∧ Hid (a = min j n ∧ b = max (j - n) 0) ∧ Br wr w.heap.size a b n 10 ∧ Below w.heap.size w wr ∧ w.heap.size ≤ wr.heap.size) (fun i _ => (n + 10 - intOf i).toNat)
  case atStart => exact ⟨0, 0, 0, by omega, by omega, rfl, (by show _ ∧ _; omega), h0, hb0, hs0⟩
  case round =>
    obtain ⟨j, a, b, j0, j1, rfl, hb, hB, hW, hS⟩ := hrel
    obtain ⟨b1, b2, b3, b4⟩ : 0 ≤ a ∧ a ≤ n ∧ 0 ≤ b ∧ b ≤ 10 := by have := hb.out; omega
    clear h0 hb0 hs0
    by_cases hlt : j < n + 10
    · by_cases hjd : j < n
      · have hbj : a < n := by have := hb.out; omega
        go_wp2_with (go_at_call 33; refine (enter_in _ a b n 10 _ hB (st_lit (by omega)) hbj).mono ?_; rintro e w1 ⟨rfl, h1, g1⟩)
        go_roundw
        case rel => exact ⟨j + 1, a + 1, b, by omega, by omega, rfl, (by have := hb.out; show _ ∧ _; omega), h1, below_of_grown hW g1 (Nat.le_refl _) hS, by have := g1.size; omega⟩
        case measure => simp [intOf]; omega
      · have hbj : ¬ a < n := by have := hb.out; omega
        have hbd : b < 10 := by have := hb.out; omega
        go_wp2_with (go_at_call 33; refine (enter_wait _ a b n 10 _ hB (st_lit (by omega)) hbj hbd).mono ?_; rintro e w1 ⟨rfl, h1, g1⟩)
        go_roundw
        case rel => exact ⟨j + 1, a, b + 1, by omega, by omega, rfl, (by have := hb.out; show _ ∧ _; omega), h1, below_of_grown hW g1 (Nat.le_refl _) hS, by have := g1.size; omega⟩
        case measure => simp [intOf]; omega
    · obtain rfl : n = a := by have := hb.out; omega
      obtain rfl : 10 = b := by have := hb.out; omega
      clear b3 b4 b1 b2
      by_cases cA : m < n
      · have L0 := fun W (hB : Br W w.heap.size n 10 n 10) => limit_yes w.heap.size n 10 n 10 m W hB (st_lit (by omega)) (by omega) (by omega)
        rw [show inN n 10 m = 0 from by unfold inN; omega] at L0
        have LL := Lib.hid L0
        have o1 := eq_fl (m := n) (n := n) (by omega) (by omega) (by omega) (by omega)
        have o2 := eq_fl (m := 10) (n := 10) (by omega) (by omega) (by omega) (by omega)
        rw [decide_eq_true rfl] at o1 o2
        have tf := tofloat
        clear L0 hb
        go_wp2_with fail
        refine (LL.out _ hB).mono ?_
        rintro e w1 ⟨rfl, h1, g1⟩
        have hW1 := below_of_grown hW g1 (Nat.le_refl _) hS
        have hS1 : w.heap.size ≤ w1.heap.size := by have := g1.size; omega
        clear g1 hW hS hB
        go_wp2_with (go_at_call 44; refine (load_any _ _ _ _ _ _ h1).mono ?_; rintro e w' ⟨rfl, rfl⟩)
        go_loopw [11, 12] (fun q i wr => ∃ j a : Int, 0 ≤ j ∧ (j ≤ n - m ∨ j = 0) ∧ i = .int .i64 j ∧ q = .int .i64 j ∧ Hid (a = n + 0 - j) ∧ Br wr w.heap.size a (10 - 0) m 10 ∧ Below w.heap.size w wr ∧ w.heap.size ≤ wr.heap.size) (fun _ i _ => (n - m - intOf i).toNat)
        case atStart => exact ⟨0, n + 0, by omega, by omega, rfl, rfl, (by show _ = _; omega), h1, hW1, hS1⟩
        case round =>
          obtain ⟨i, a, i0, i1, rfl, rfl, hb, hB, hW, hS⟩ := hrel
          obtain ⟨b1, b2⟩ : 1 ≤ a ∧ a ≤ 40 := by have := hb.out; omega
          clear h1 hW1 hS1
          have L0 := leave_some w.heap.size a (10 - 0) m 10 _ hB (st_lit (by omega)) (by omega)
          by_cases hlt : i < n - m
          · rw [show inN (a - 1) (10 - 0) m = 0 from by have := hb.out; unfold inN; omega] at L0
            have LL := Lib.hid L0
            clear L0
            go_wp2_with (go_at_call 40; refine LL.out.mono ?_; rintro e w1 ⟨rfl, h1, g1⟩)
            go_roundw
            case rel => exact ⟨i + 1, a - 1 + 0, by omega, by omega, rfl, rfl, (by have := hb.out; show _ = _; omega), (by simpa using h1), below_of_grown hW g1 (Nat.le_refl _) hS, by have := g1.size; omega⟩
            case measure => simp [intOf]; omega
          · rw [show inN (a - 1) (10 - 0) m = 1 from by have := hb.out; unfold inN; omega] at L0
            have LL := Lib.hid L0
            have hi : Hid (i = n - m) := by show _ = _; omega
            clear L0
            go_wp2_with fail
            refine LL.out.mono ?_
            rintro e w2 ⟨rfl, h2, g2⟩
            go_wp2_with fail
            refine (B7.told_any _).mono ?_
            rintro e w3 ⟨rfl, b3⟩
            have k9 : (i == n - m) = true := beq_iff_eq.2 hi.out
            go_wp2
            all_goals
              go_ret
              exact ⟨ret_bool (by first | rfl | exact beq_iff_eq.2 (by have := hi.out; omega)), (below_of_grown hW g2 (Nat.le_refl _) hS).trans (b3.mono (by have := g2.size; omega))⟩
      · by_cases cB : m - n < 10
        · have L0 := fun W (hB : Br W w.heap.size n 10 n 10) => limit_yes w.heap.size n 10 n 10 m W hB (st_lit (by omega)) (by omega) (by omega)
          rw [show inN n 10 m = (m - n) from by unfold inN; omega] at L0
          have LL := Lib.hid L0
          have o1 := eq_fl (m := n + (m - n)) (n := n + (m - n)) (by omega) (by omega) (by omega) (by omega)
          have o2 := eq_fl (m := 10 - (m - n)) (n := 10 - (m - n)) (by omega) (by omega) (by omega) (by omega)
          rw [decide_eq_true rfl] at o1 o2
          have tf := tofloat
          clear L0 hb
          go_wp2_with fail
          refine (LL.out _ hB).mono ?_
          rintro e w1 ⟨rfl, h1, g1⟩
          have hW1 := below_of_grown hW g1 (Nat.le_refl _) hS
          have hS1 : w.heap.size ≤ w1.heap.size := by have := g1.size; omega
          clear g1 hW hS hB
          go_wp2_with (go_at_call 44; refine (load_any _ _ _ _ _ _ h1).mono ?_; rintro e w' ⟨rfl, rfl⟩)
          go_loopw [11, 12] (fun q i wr => ∃ j a : Int, 0 ≤ j ∧ (j ≤ n - m ∨ j = 0) ∧ i = .int .i64 j ∧ q = .int .i64 j ∧ Hid (a = n + (m - n) - j) ∧ Br wr w.heap.size a (10 - (m - n)) m 10 ∧ Below w.heap.size w wr ∧ w.heap.size ≤ wr.heap.size) (fun _ i _ => (n - m - intOf i).toNat)
          case atStart => exact ⟨0, n + (m - n), by omega, by omega, rfl, rfl, (by show _ = _; omega), h1, hW1, hS1⟩
          case round =>
            obtain ⟨i, a, i0, i1, rfl, rfl, hb, hB, hW, hS⟩ := hrel
            obtain ⟨b1, b2⟩ : 1 ≤ a ∧ a ≤ 40 := by have := hb.out; omega
            clear h1 hW1 hS1
            have L0 := leave_some w.heap.size a (10 - (m - n)) m 10 _ hB (st_lit (by omega)) (by omega)
            by_cases hlt : i < n - m
            · rw [show inN (a - 1) (10 - (m - n)) m = 0 from by have := hb.out; unfold inN; omega] at L0
              have LL := Lib.hid L0
              clear L0
              go_wp2_with (go_at_call 40; refine LL.out.mono ?_; rintro e w1 ⟨rfl, h1, g1⟩)
              go_roundw
              case rel => exact ⟨i + 1, a - 1 + 0, by omega, by omega, rfl, rfl, (by have := hb.out; show _ = _; omega), (by simpa using h1), below_of_grown hW g1 (Nat.le_refl _) hS, by have := g1.size; omega⟩
              case measure => simp [intOf]; omega
            · rw [show inN (a - 1) (10 - (m - n)) m = 1 from by have := hb.out; unfold inN; omega] at L0
              have LL := Lib.hid L0
              have hi : Hid (i = 0) := by show _ = _; omega
              clear L0
              go_wp2_with fail
              refine LL.out.mono ?_
              rintro e w2 ⟨rfl, h2, g2⟩
              go_wp2_with fail
              refine (B7.told_any _).mono ?_
              rintro e w3 ⟨rfl, b3⟩
              have k9 : (i == 0) = true := beq_iff_eq.2 hi.out
              go_wp2
              all_goals
                go_ret
                exact ⟨ret_bool (by first | rfl | exact beq_iff_eq.2 (by have := hi.out; omega)), (below_of_grown hW g2 (Nat.le_refl _) hS).trans (b3.mono (by have := g2.size; omega))⟩
        · by_cases cC : 10 < m - n
          · have L0 := fun W (hB : Br W w.heap.size n 10 n 10) => limit_yes w.heap.size n 10 n 10 m W hB (st_lit (by omega)) (by omega) (by omega)
            rw [show inN n 10 m = 10 from by unfold inN; omega] at L0
            have LL := Lib.hid L0
            have o1 := eq_fl (m := n + 10) (n := n + 10) (by omega) (by omega) (by omega) (by omega)
            have o2 := eq_fl (m := 0) (n := 0) (by omega) (by omega) (by omega) (by omega)
            rw [decide_eq_true rfl] at o1 o2
            have tf := tofloat
            clear L0 hb
            go_wp2_with fail
            refine (LL.out _ hB).mono ?_
            rintro e w1 ⟨rfl, h1, g1⟩
            have hW1 := below_of_grown hW g1 (Nat.le_refl _) hS
            have hS1 : w.heap.size ≤ w1.heap.size := by have := g1.size; omega
            clear g1 hW hS hB
            go_wp2_with (go_at_call 44; refine (load_any _ _ _ _ _ _ h1).mono ?_; rintro e w' ⟨rfl, rfl⟩)
            go_loopw [11, 12] (fun q i wr => ∃ j a : Int, 0 ≤ j ∧ (j ≤ n - m ∨ j = 0) ∧ i = .int .i64 j ∧ q = .int .i64 j ∧ Hid (a = n + 10 - j) ∧ Br wr w.heap.size a (10 - 10) m 10 ∧ Below w.heap.size w wr ∧ w.heap.size ≤ wr.heap.size) (fun _ i _ => (n - m - intOf i).toNat)
            case atStart => exact ⟨0, n + 10, by omega, by omega, rfl, rfl, (by show _ = _; omega), h1, hW1, hS1⟩
            case round =>
              obtain ⟨i, a, i0, i1, rfl, rfl, hb, hB, hW, hS⟩ := hrel
              obtain ⟨b1, b2⟩ : 1 ≤ a ∧ a ≤ 40 := by have := hb.out; omega
              clear h1 hW1 hS1
              have L0 := leave_some w.heap.size a (10 - 10) m 10 _ hB (st_lit (by omega)) (by omega)
              by_cases hlt : i < n - m
              · rw [show inN (a - 1) (10 - 10) m = 0 from by have := hb.out; unfold inN; omega] at L0
                have LL := Lib.hid L0
                clear L0
                go_wp2_with (go_at_call 40; refine LL.out.mono ?_; rintro e w1 ⟨rfl, h1, g1⟩)
                go_roundw
                case rel => exact ⟨i + 1, a - 1 + 0, by omega, by omega, rfl, rfl, (by have := hb.out; show _ = _; omega), (by simpa using h1), below_of_grown hW g1 (Nat.le_refl _) hS, by have := g1.size; omega⟩
                case measure => simp [intOf]; omega
              · rw [show inN (a - 1) (10 - 10) m = 0 from by have := hb.out; unfold inN; omega] at L0
                have LL := Lib.hid L0
                have hi : Hid (i = 0) := by show _ = _; omega
                clear L0
                go_wp2_with fail
                refine LL.out.mono ?_
                rintro e w2 ⟨rfl, h2, g2⟩
                go_wp2_with fail
                refine (B7.told_any _).mono ?_
                rintro e w3 ⟨rfl, b3⟩
                have k9 : (i == 0) = true := beq_iff_eq.2 hi.out
                go_wp2
                all_goals
                  go_ret
                  exact ⟨ret_bool (by first | rfl | exact beq_iff_eq.2 (by have := hi.out; omega)), (below_of_grown hW g2 (Nat.le_refl _) hS).trans (b3.mono (by have := g2.size; omega))⟩
          · have kk : ((10 : Int) != m - n) = false := by rw [bne_eq_false_iff_eq]; omega
            have L0 := fun W (hB : Br W w.heap.size n 10 n 10) => limit_yes w.heap.size n 10 n 10 m W hB (st_lit (by omega)) (by omega) (by omega)
            rw [show inN n 10 m = 10 from by unfold inN; omega] at L0
            have LL := Lib.hid L0
            have o1 := eq_fl (m := n + 10) (n := n + 10) (by omega) (by omega) (by omega) (by omega)
            have o2 := eq_fl (m := 0) (n := 0) (by omega) (by omega) (by omega) (by omega)
            rw [decide_eq_true rfl] at o1 o2
            have tf := tofloat
            clear L0 hb
            go_wp2_with fail
            refine (LL.out _ hB).mono ?_
            rintro e w1 ⟨rfl, h1, g1⟩
            have hW1 := below_of_grown hW g1 (Nat.le_refl _) hS
            have hS1 : w.heap.size ≤ w1.heap.size := by have := g1.size; omega
            clear g1 hW hS hB
            go_wp2_with (go_at_call 44; refine (load_any _ _ _ _ _ _ h1).mono ?_; rintro e w' ⟨rfl, rfl⟩)
            go_loopw [11, 12] (fun q i wr => ∃ j a : Int, 0 ≤ j ∧ (j ≤ n - m ∨ j = 0) ∧ i = .int .i64 j ∧ q = .int .i64 j ∧ Hid (a = n + 10 - j) ∧ Br wr w.heap.size a (10 - 10) m 10 ∧ Below w.heap.size w wr ∧ w.heap.size ≤ wr.heap.size) (fun _ i _ => (n - m - intOf i).toNat)
            case atStart => exact ⟨0, n + 10, by omega, by omega, rfl, rfl, (by show _ = _; omega), h1, hW1, hS1⟩
            case round =>
              obtain ⟨i, a, i0, i1, rfl, rfl, hb, hB, hW, hS⟩ := hrel
              obtain ⟨b1, b2⟩ : 1 ≤ a ∧ a ≤ 40 := by have := hb.out; omega
              clear h1 hW1 hS1
              have L0 := leave_some w.heap.size a (10 - 10) m 10 _ hB (st_lit (by omega)) (by omega)
              by_cases hlt : i < n - m
              · rw [show inN (a - 1) (10 - 10) m = 0 from by have := hb.out; unfold inN; omega] at L0
                have LL := Lib.hid L0
                clear L0
                go_wp2_with (go_at_call 40; refine LL.out.mono ?_; rintro e w1 ⟨rfl, h1, g1⟩)
                go_roundw
                case rel => exact ⟨i + 1, a - 1 + 0, by omega, by omega, rfl, rfl, (by have := hb.out; show _ = _; omega), (by simpa using h1), below_of_grown hW g1 (Nat.le_refl _) hS, by have := g1.size; omega⟩
                case measure => simp [intOf]; omega
              · rw [show inN (a - 1) (10 - 10) m = 0 from by have := hb.out; unfold inN; omega] at L0
                have LL := Lib.hid L0
                have hi : Hid (i = 0) := by show _ = _; omega
                clear L0
                go_wp2_with fail
                refine LL.out.mono ?_
                rintro e w2 ⟨rfl, h2, g2⟩
                go_wp2_with fail
                refine (B7.told_any _).mono ?_
                rintro e w3 ⟨rfl, b3⟩
                have k9 : (i == 0) = true := beq_iff_eq.2 hi.out
                go_wp2
                all_goals
                  go_ret
                  exact ⟨ret_bool (by first | rfl | exact beq_iff_eq.2 (by have := hi.out; omega)), (below_of_grown hW g2 (Nat.le_refl _) hS).trans (b3.mono (by have := g2.size; omega))⟩
end Go.Proofs.Ytnlfocmmnjgmpaa.Bs
