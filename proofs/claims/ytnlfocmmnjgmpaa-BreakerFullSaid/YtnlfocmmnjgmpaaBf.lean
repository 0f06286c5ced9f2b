/- BreakerFull. -/
import Derived.Test.YtnlfocmmnjgmpaaB7
namespace Go.Proofs.Ytnlfocmmnjgmpaa.Bf
open Go.RowKit Go.Proofs.Ytnlfocmmnjgmpaa.Fl Go.Proofs.Ytnlfocmmnjgmpaa.L Go.Proofs.Ytnlfocmmnjgmpaa.B Go.Proofs.Ytnlfocmmnjgmpaa.B7

theorem brBelow {w w' : World} {g : Nat} {a b l d : Int} (h : Br w g a b l d) {B : Nat} (hb : Below B w w') (hk : g < B) : Br w' g a b l d := Blk.below h hb hk
theorem brlt {w : World} {g : Nat} {a b l d : Int} (h : Br w g a b l d) : g < w.heap.size := Blk.lt h

set_option maxRecDepth 100000 in
set_option maxHeartbeats 2000000 in
theorem walk (a0 a1 : Int) (w : World) :
    Calls Try.prog 12 #[.int .i64 a0, .int .i64 a1] w fun e w' => e = .returned (.bool true) ∧ Below w.heap.size w w' := by
  obtain ⟨x, hx0, hx1, hX⟩ := umod a0 20 (by omega) (by omega)
  obtain ⟨d, hd0, hd1, hD⟩ := umod a1 21 (by omega) (by omega)
  go_enter Try.func12, Try.ntmps12
  go_wp2_with fail
  simp only [hX, hD]
  clear hX hD
  obtain ⟨n, hn⟩ : ∃ n, n = 1 + x := ⟨_, rfl⟩
  rw [← hn]
  have n0 : 1 ≤ n := by omega
  have n1 : n ≤ 20 := by omega
  clear hn
  refine (new_yes n d _ (by unfold May; omega)).mono ?_
  rintro e w0 ⟨rfl, h0, hw⟩
  have hb0 : Below w.heap.size w w0 := by rw [hw]; exact (Below.refl _ _).alloc (Nat.le_refl _) _
  have hs0 : w.heap.size ≤ w0.heap.size := by rw [hw]; simp
  clear hw
  go_wp2_with fail
  go_loopw [8] (fun i wr => ∃ j a b : Int, 0 ≤ j ∧ j ≤ n + d ∧ i = .int .i64 j ∧ Hid (a = min j n ∧ b = max (j - n) 0) ∧ Br wr w.heap.size a b n d ∧ Below w.heap.size w wr ∧ w.heap.size ≤ wr.heap.size) (fun i _ => (n + d - intOf i).toNat)
  case atStart => exact ⟨0, 0, 0, by omega, by omega, rfl, (by show _ ∧ _; omega), h0, hb0, hs0⟩
  case round =>
    obtain ⟨j, a, b, j0, j1, rfl, hb, hB, hW, hS⟩ := hrel
    obtain ⟨b1, b2, b3, b4⟩ : 0 ≤ a ∧ a ≤ n ∧ 0 ≤ b ∧ b ≤ d := by have := hb.out; omega
    clear h0 hb0 hs0
    by_cases hlt : j < n + d
    · by_cases hjd : j < n
      · have hbj : a < n := by have := hb.out; omega
        have k1 : decide (j < n) = true := decide_eq_true hjd
        go_wp2_with (go_at_call 33; refine (enter_in _ a b n d _ hB (st_lit (by omega)) hbj).mono ?_; rintro e w1 ⟨rfl, h1, g1⟩)
        go_roundw
        case rel => exact ⟨j + 1, a + 1, b, by omega, by omega, rfl, (by have := hb.out; show _ ∧ _; omega), h1, below_of_grown hW g1 (Nat.le_refl _) hS, by have := g1.size; omega⟩
        case measure => simp [intOf]; omega
      · have hbj : ¬ a < n := by have := hb.out; omega
        have hbd : b < d := by have := hb.out; omega
        have k1 : decide (j < n) = false := decide_eq_false hjd
        go_wp2_with (go_at_call 33; refine (enter_wait _ a b n d _ hB (st_lit (by omega)) hbj hbd).mono ?_; rintro e w1 ⟨rfl, h1, g1⟩)
        go_roundw
        case rel => exact ⟨j + 1, a, b + 1, by omega, by omega, rfl, (by have := hb.out; show _ ∧ _; omega), h1, below_of_grown hW g1 (Nat.le_refl _) hS, by have := g1.size; omega⟩
        case measure => simp [intOf]; omega
    · obtain rfl : n = a := by have := hb.out; omega
      obtain rfl : d = b := by have := hb.out; omega
      clear hb
      go_wp2_with fail
      refine (enter_full _ n d n d _ hB (st_lit (by omega)) (by omega) (by omega)).mono ?_
      rintro e w1 ⟨rfl, h1, g1⟩
      go_wp2_with (go_at_call 44; refine (load_any _ _ _ _ _ _ h1).mono ?_; rintro e w' ⟨rfl, rfl⟩)
      have hW1 := below_of_grown hW g1 (Nat.le_refl _) hS
      have hS1 : w.heap.size ≤ w1.heap.size := by have := g1.size; omega
      clear g1 hW hS hB
      go_loopw [14] (fun i wr => ∃ j a b : Int, 0 ≤ j ∧ j ≤ n + d ∧ i = .int .i64 j ∧ Hid (a = n - max (j - d) 0 ∧ b = max (d - j) 0) ∧ Br wr w.heap.size a b n d ∧ Below w.heap.size w wr ∧ w.heap.size ≤ wr.heap.size) (fun i _ => (n + d - intOf i).toNat)
      case atStart => exact ⟨0, n, d, by omega, by omega, rfl, (by show _ ∧ _; omega), h1, hW1, hS1⟩
      case round =>
        obtain ⟨i, a, b, i0, i1, rfl, hb, hB, hW, hS⟩ := hrel
        obtain ⟨b1, b2, b3, b4⟩ : 0 ≤ a ∧ a ≤ n ∧ 0 ≤ b ∧ b ≤ d := by have := hb.out; omega
        clear h1 hW1 hS1
        by_cases hlt : i < n + d
        · have ha : ¬ a = 0 := by have := hb.out; omega
          have L0 := leave_some w.heap.size a b n d _ hB (st_lit (by omega)) ha
          by_cases hjd : i < d
          · rw [show inN (a - 1) b n = 1 from by have := hb.out; unfold inN; omega] at L0
            have LL := Lib.hid L0
            clear L0 ha
            have k1 : decide (i < d) = true := decide_eq_true hjd
            go_wp2_with (go_at_call 40; refine LL.out.mono ?_; rintro e w1 ⟨rfl, h1, g1⟩)
            go_roundw
            case rel => exact ⟨i + 1, a - 1 + 1, b - 1, by omega, by omega, rfl, (by have := hb.out; show _ ∧ _; omega), h1, below_of_grown hW g1 (Nat.le_refl _) hS, by have := g1.size; omega⟩
            case measure => simp [intOf]; omega
          · rw [show inN (a - 1) b n = 0 from by have := hb.out; unfold inN; omega] at L0
            have LL := Lib.hid L0
            clear L0 ha
            have k1 : decide (i < d) = false := decide_eq_false hjd
            go_wp2_with (go_at_call 40; refine LL.out.mono ?_; rintro e w1 ⟨rfl, h1, g1⟩)
            go_roundw
            case rel => exact ⟨i + 1, a - 1 + 0, b - 0, by omega, by omega, rfl, (by have := hb.out; show _ ∧ _; omega), h1, below_of_grown hW g1 (Nat.le_refl _) hS, by have := g1.size; omega⟩
            case measure => simp [intOf]; omega
        · obtain rfl : 0 = a := by have := hb.out; omega
          obtain rfl : 0 = b := by have := hb.out; omega
          have F0 := fun W (hB : Br W w.heap.size 0 0 n d) => free_any w.heap.size 0 0 n d W hB (st_lit (by omega))
          rw [show max (n - 0) 0 = n from by omega] at F0
          have F := Lib.hid F0
          have o1 := eq_fl (m := n) (n := n) (by omega) (by omega) (by omega) (by omega)
          have o2 := eq_fl (m := d) (n := d) (by omega) (by omega) (by omega) (by omega)
          rw [decide_eq_true rfl] at o1 o2
          have tf := tofloat
          clear hb F0
          go_wp2_with fail
          refine (leave_none _ 0 0 n d _ hB (st_lit (by omega)) rfl).mono ?_
          rintro e w1 ⟨rfl, h1, g1⟩
          go_wp2_with fail
          refine (B7.told_any _).mono ?_
          rintro e w3 ⟨rfl, b3⟩
          go_wp2_with fail
          refine (F.out _ (brBelow h1 b3 (brlt h1))).mono ?_
          rintro e w4 ⟨rfl, q, rfl⟩
          go_wp2
          go_ret
          exact ⟨rfl, below_drewN ((below_of_grown hW g1 (Nat.le_refl _) hS).trans (b3.mono (by have := g1.size; omega))) _⟩
end Go.Proofs.Ytnlfocmmnjgmpaa.Bf
