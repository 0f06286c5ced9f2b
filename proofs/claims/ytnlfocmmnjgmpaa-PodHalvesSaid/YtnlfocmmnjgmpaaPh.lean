/- PodHalves. -/
import Derived.Test.YtnlfocmmnjgmpaaD8
import Derived.Deep.RegionHeld3
namespace Go.Proofs.Ytnlfocmmnjgmpaa.Ph
open Go.RowKit Go.Proofs.Ytnlfocmmnjgmpaa.Fl Go.Proofs.Ytnlfocmmnjgmpaa.L Go.Proofs.Ytnlfocmmnjgmpaa.B Go.Proofs.Ytnlfocmmnjgmpaa.B7 Go.Proofs.Ytnlfocmmnjgmpaa.D Go.Proofs.Ytnlfocmmnjgmpaa.D2 Go.Proofs.Ytnlfocmmnjgmpaa.D3

set_option maxRecDepth 100000 in
set_option maxHeartbeats 4000000 in
theorem walk (a0 a1 : Int) (w : World) :
    Calls Try.prog 17 #[.int .i64 a0, .int .i64 a1] w fun e w' => e = .returned (.bool true) ∧ Below w.heap.size w w' := by
  obtain ⟨x, hx0, hx1, hX⟩ := umod a0 1001 (by omega) (by omega)
  obtain ⟨y, hy0, hy1, hY⟩ := umod a1 1001 (by omega) (by omega)
  go_enter Try.func17, Try.ntmps17
  go_wp2_with fail
  simp only [hX, hY]
  clear hX hY
  refine (new_yes 1 5 5 100 _ (by unfold MayP May; omega)).mono ?_
  rintro e w0 ⟨rfl, h0, hb0, hs0⟩
  have S0 : w.heap.size + 2 ≤ w0.heap.size := by omega
  clear hs0
  by_cases hz : x + y = 0
  · have k1 : (x + y == 0) = true := beq_iff_eq.2 hz
    clear hz
    go_wp2_with (go_at_call 52; refine (D8.told_any _).mono ?_; rintro e wt ⟨rfl, hbt⟩)
    go_ret
    exact ⟨rfl, hb0.trans (hbt.mono (by omega))⟩
  · have k1 : (x + y == 0) = false := beq_eq_false_iff_ne.2 hz
    go_wp2_with fail
    have E1 := enter_yes (w.heap.size + 1) w.heap.size 1 100 100 100 0 0 0 5 5 100 _ h0 ⟨st_lit (by omega), ⟨by omega, by omega⟩, ⟨by omega, by omega⟩, ⟨by omega, by omega⟩, by omega, by omega⟩ (by omega) (by omega) true 0 1 0 (fun W hW => B.enter_in _ 0 0 5 5 W hW (st_lit (by omega)) (by omega))
    rw [show sumAt 100 0 0 0 100 = 0 from by decide] at E1
    refine E1.mono ?_
    rintro e w1 ⟨rfl, h1, t1⟩
    clear E1
    go_wp2_with fail
    have E2 := leave_yes (w.heap.size + 1) w.heap.size 1 100 100 100 0 1 0 5 5 (100 + x) _ h1 ⟨st_lit (by omega), ⟨by omega, by omega⟩, ⟨by omega, by omega⟩, ⟨by omega, by omega⟩, by omega, by omega⟩ (by omega) (by omega) false 0 0 0 (fun W hW => B.leave_some _ 1 0 5 5 W hW (st_lit (by omega)) (by omega))
    rw [show sumAt 100 0 1 0 (100 + x) = x from by unfold sumAt; omega] at E2
    refine E2.mono ?_
    rintro e w2 ⟨rfl, h2, t2⟩
    clear E2
    go_wp2_with fail
    have E3 := stat_yes (w.heap.size + 1) w.heap.size 1 100 100 (100 + x) x 0 0 5 5 (100 + x + y) _ h2 ⟨st_lit (by omega), ⟨by omega, by omega⟩, ⟨by omega, by omega⟩, ⟨by omega, by omega⟩, by omega, by omega⟩ (by omega) (by omega) (by omega)
    rw [show sumAt (100 + x) x 0 0 (100 + x + y) = x from by unfold sumAt; omega, show 100 + x + y - 100 = x + y from by omega] at E3
    have L0 : 0 ≤ x * 1000 / (x + y) := Int.ediv_nonneg (by omega) (by omega)
    have L1 := Int.ediv_le_self (a := x * 1000) (x + y) (by omega)
    have f1 : IntKind.i64.wrap (1000 * x) = 1000 * x := wrap_in (by omega) (by omega)
    have f2 : IntKind.i64.wrap (x + y) = x + y := wrap_in (by omega) (by omega)
    have f3 : IntKind.i64.wrap ((1000 * x).tdiv (x + y)) = x * 1000 / (x + y) := by
      rw [Int.tdiv_eq_ediv_of_nonneg (by omega), Int.mul_comm]
      exact wrap_in (by omega) (by omega)
    have f4 : ¬ x + y = 0 := hz
    have f5 : (IntKind.i64.wrap ((1000 * x).tdiv (x + y))) = x * 1000 / (x + y) := f3
    generalize x * 1000 / (x + y) = Lo at *
    refine E3.mono ?_
    rintro e w3 ⟨rfl, h3, t3⟩
    clear E3
    have hb3 : Below w.heap.size w w3 := Two.below hb0 ((t1.trans t2).trans t3) (by omega) (by omega) (by omega)
    have S3 : w.heap.size + 2 ≤ w3.heap.size := by have := t1.size; have := t2.size; have := t3.size; omega
    clear t1 t2 t3 h0 h1 h2 h3 hb0 S0 L1
    have K6 := Blk.new w3 #[.int .i64 1, .int .i64 (x + y), .int .i64 Lo] 61
    have HH := Lib.hid (hb3.alloc (by omega) (.cells #[.int .i64 1, .int .i64 (x + y), .int .i64 Lo] 61))
    have SS : Hid (w.heap.size ≤ (w3.alloc (.cells #[.int .i64 1, .int .i64 (x + y), .int .i64 Lo] 61)).drew.heap.size) := by show w.heap.size ≤ (w3.alloc _).heap.size; simp; omega
    have KK := Lib.hid fun (wt : World) (hbt : Below (w3.alloc (.cells #[.int .i64 1, .int .i64 (x + y), .int .i64 Lo] 61)).drew.heap.size (w3.alloc (.cells #[.int .i64 1, .int .i64 (x + y), .int .i64 Lo] 61)).drew wt) => Blk.below (show Blk (w3.alloc (.cells #[.int .i64 1, .int .i64 (x + y), .int .i64 Lo] 61)).drew w3.heap.size #[.int .i64 1, .int .i64 (x + y), .int .i64 Lo] 61 from K6) hbt (show _ < (w3.alloc (.cells #[.int .i64 1, .int .i64 (x + y), .int .i64 Lo] 61)).heap.size from by simp)
    clear K6 hb3 S3 f5
    have q1 : (Lo == Lo) = true := beq_self_eq_true _
    go_wp2_with fail
    go_region_held3 (fun w' => w'.cell? ⟨w3.heap.size, 1, none⟩ = some (.int .i64 (x + y)) ∧ w'.cell? ⟨w3.heap.size, 2, none⟩ = some (.int .i64 Lo)) (first | go_keep | exact ⟨Blk.cell (KK.out _ ‹_›) 1, Blk.cell (KK.out _ ‹_›) 2⟩)
      (first | (go_at_call 52; refine (D8.told_any _).mono ?_; rintro e wt ⟨rfl, hbt⟩))
    all_goals
      go_wp2
      go_ret
      exact ⟨by first | rfl | simp [q1], (HH.out.drew).trans (hbt.mono SS.out)⟩
end Go.Proofs.Ytnlfocmmnjgmpaa.Ph
