/- BreakerNone. -/
import Derived.Test.YtnlfocmmnjgmpaaB7
namespace Go.Proofs.Ytnlfocmmnjgmpaa.Bn
open Go.RowKit Go.Proofs.Ytnlfocmmnjgmpaa.Fl Go.Proofs.Ytnlfocmmnjgmpaa.L Go.Proofs.Ytnlfocmmnjgmpaa.B Go.Proofs.Ytnlfocmmnjgmpaa.B7

theorem brBelow {w w' : World} {g : Nat} {a b l d : Int} (h : Br w g a b l d) {B : Nat} (hb : Below B w w') (hk : g < B) : Br w' g a b l d := Blk.below h hb hk
theorem brlt {w : World} {g : Nat} {a b l d : Int} (h : Br w g a b l d) : g < w.heap.size := Blk.lt h

set_option maxRecDepth 100000 in
set_option maxHeartbeats 2000000 in
theorem walk (a0 a1 a2 : Int) (w : World) :
    Calls Try.prog 9 #[.int .i64 a0, .int .i64 a1, .int .i64 a2] w fun e w' => e = .returned (.bool true) ∧ Below w.heap.size w w' := by
  obtain ⟨d, hd0, hd1, hD⟩ := umod a0 21 (by omega) (by omega)
  obtain ⟨k, hk0, hk1, hK⟩ := umod a1 26 (by omega) (by omega)
  obtain ⟨l, hl0, hl1, hL⟩ := umod a2 30 (by omega) (by omega)
  go_enter Try.func9, Try.ntmps9
  go_wp2_with fail
  refine (new_yes 0 d _ (by unfold May; omega)).mono ?_
  rintro e w0 ⟨rfl, h0, hw⟩
  have hb0 : Below w.heap.size w w0 := by rw [hw]; exact (Below.refl _ _).alloc (Nat.le_refl _) _
  have hs0 : w.heap.size ≤ w0.heap.size := by rw [hw]; simp
  clear hw
  simp only [hD, hK, hL]
  clear hD hK hL
  go_wp2_with fail
  go_loopw [11, 12] (fun q i wr => ∃ j b : Int, 0 ≤ j ∧ j ≤ k ∧ i = .int .i64 j ∧ q = .int .i64 b ∧ Hid (b = min j d) ∧ Br wr w.heap.size 0 b 0 d ∧ Below w.heap.size w wr ∧ w.heap.size ≤ wr.heap.size) (fun _ i _ => (k - intOf i).toNat)
  case atStart => exact ⟨0, 0, by omega, by omega, rfl, rfl, (by show _ = _; omega), h0, hb0, hs0⟩
  case round =>
    obtain ⟨j, b, j0, j1, rfl, rfl, hb, hB, hW, hS⟩ := hrel
    have b1 : 0 ≤ b := by have := hb.out; omega
    have b2 : b ≤ d := by have := hb.out; omega
    have b3 : b ≤ j := by have := hb.out; omega
    clear h0 hb0 hs0
    by_cases hlt : j < k
    · by_cases hjd : j < d
      · have hbj : b < d := by have := hb.out; omega
        have k1 : decide (j < d) = true := decide_eq_true hjd
        go_wp2_with (go_at_call 33; refine (enter_wait _ 0 b 0 d _ hB (st_lit (by omega)) (by omega) hbj).mono ?_; rintro e w1 ⟨rfl, h1, g1⟩)
        go_roundw
        case rel => exact ⟨j + 1, b + 1, by omega, by omega, rfl, rfl, (by have := hb.out; show _ = _; omega), h1, below_of_grown hW g1 (Nat.le_refl _) hS, by have := g1.size; omega⟩
        case measure => simp [intOf]; omega
      · have hbj : ¬ b < d := by have := hb.out; omega
        have k1 : decide (j < d) = false := decide_eq_false hjd
        go_wp2_with (go_at_call 33; refine (enter_full _ 0 b 0 d _ hB (st_lit (by omega)) (by omega) hbj).mono ?_; rintro e w1 ⟨rfl, h1, g1⟩)
        go_roundw
        case rel => exact ⟨j + 1, b, by omega, by omega, rfl, rfl, (by have := hb.out; show _ = _; omega), h1, below_of_grown hW g1 (Nat.le_refl _) hS, by have := g1.size; omega⟩
        case measure => simp [intOf]; omega
    · by_cases hz : b = 0
      · obtain rfl := hz
        have L0 := fun W (hB : Br W w.heap.size 0 0 0 d) => limit_yes w.heap.size 0 0 0 d (1 + l) W hB (st_lit (by omega)) (by omega) (by omega)
        rw [show inN 0 0 (1 + l) = 0 from by unfold inN; omega] at L0
        have LL := Lib.hid L0
        have F0 := fun W (hB : Br W w.heap.size (0 + 0) (0 - 0) (1 + l) d) => free_any w.heap.size (0 + 0) (0 - 0) (1 + l) d W hB (st_lit (by omega))
        rw [show max (1 + l - (0 + 0)) 0 = 1 + l - 0 from by omega] at F0
        have F := Lib.hid F0
        clear L0 F0
        go_wp2_with fail
        refine (quit_none _ 0 0 0 d _ hB (st_lit (by omega)) rfl).mono ?_
        rintro e w1 ⟨rfl, h1, g1⟩
        go_wp2_with fail
        refine (LL.out _ h1).mono ?_
        rintro e w2 ⟨rfl, h2, g2⟩
        go_wp2_with fail
        refine (B7.told_any _).mono ?_
        rintro e w3 ⟨rfl, b3⟩
        go_wp2_with fail
        refine (Lib.hid (F.out _ (brBelow h2 b3 (brlt h2)))).out.mono ?_
        rintro e w4 ⟨rfl, n, rfl⟩
        go_wp2
        go_ret
        exact ⟨rfl, below_drewN ((below_of_grown hW (grown_trans g1 g2) (Nat.le_refl _) hS).trans (b3.mono (by have := g1.size; have := g2.size; omega))) _⟩
      · have k2 : (b == 0) = false := beq_eq_false_iff_ne.2 hz
        by_cases hm : 1 + l < b - 1
        · have L0 := fun W (hB : Br W w.heap.size 0 (b - 1) 0 d) => limit_yes w.heap.size 0 (b - 1) 0 d (1 + l) W hB (st_lit (by omega)) (by omega) (by omega)
          rw [show inN 0 (b - 1) (1 + l) = (1 + l) from by unfold inN; omega] at L0
          have LL := Lib.hid L0
          have F0 := fun W (hB : Br W w.heap.size (0 + (1 + l)) ((b - 1) - (1 + l)) (1 + l) d) => free_any w.heap.size (0 + (1 + l)) ((b - 1) - (1 + l)) (1 + l) d W hB (st_lit (by omega))
          rw [show max (1 + l - (0 + (1 + l))) 0 = 1 + l - (1 + l) from by omega] at F0
          have F := Lib.hid F0
          clear L0 F0
          go_wp2_with fail
          refine (quit_some _ 0 b 0 d _ hB (st_lit (by omega)) hz).mono ?_
          rintro e w1 ⟨rfl, h1, g1⟩
          go_wp2_with fail
          refine (LL.out _ h1).mono ?_
          rintro e w2 ⟨rfl, h2, g2⟩
          go_wp2_with fail
          refine (B7.told_any _).mono ?_
          rintro e w3 ⟨rfl, b3⟩
          go_wp2_with fail
          refine (Lib.hid (F.out _ (brBelow h2 b3 (brlt h2)))).out.mono ?_
          rintro e w4 ⟨rfl, n, rfl⟩
          go_wp2
          go_ret
          exact ⟨rfl, below_drewN ((below_of_grown hW (grown_trans g1 g2) (Nat.le_refl _) hS).trans (b3.mono (by have := g1.size; have := g2.size; omega))) _⟩
        · have L0 := fun W (hB : Br W w.heap.size 0 (b - 1) 0 d) => limit_yes w.heap.size 0 (b - 1) 0 d (1 + l) W hB (st_lit (by omega)) (by omega) (by omega)
          rw [show inN 0 (b - 1) (1 + l) = (b - 1) from by unfold inN; omega] at L0
          have LL := Lib.hid L0
          have F0 := fun W (hB : Br W w.heap.size (0 + (b - 1)) ((b - 1) - (b - 1)) (1 + l) d) => free_any w.heap.size (0 + (b - 1)) ((b - 1) - (b - 1)) (1 + l) d W hB (st_lit (by omega))
          rw [show max (1 + l - (0 + (b - 1))) 0 = 1 + l - (b - 1) from by omega] at F0
          have F := Lib.hid F0
          clear L0 F0
          go_wp2_with fail
          refine (quit_some _ 0 b 0 d _ hB (st_lit (by omega)) hz).mono ?_
          rintro e w1 ⟨rfl, h1, g1⟩
          go_wp2_with fail
          refine (LL.out _ h1).mono ?_
          rintro e w2 ⟨rfl, h2, g2⟩
          go_wp2_with fail
          refine (B7.told_any _).mono ?_
          rintro e w3 ⟨rfl, b3⟩
          go_wp2_with fail
          refine (Lib.hid (F.out _ (brBelow h2 b3 (brlt h2)))).out.mono ?_
          rintro e w4 ⟨rfl, n, rfl⟩
          go_wp2
          go_ret
          exact ⟨rfl, below_drewN ((below_of_grown hW (grown_trans g1 g2) (Nat.le_refl _) hS).trans (b3.mono (by have := g1.size; have := g2.size; omega))) _⟩
end Go.Proofs.Ytnlfocmmnjgmpaa.Bn
