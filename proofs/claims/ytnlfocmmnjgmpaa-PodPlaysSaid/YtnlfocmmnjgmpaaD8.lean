/- 'told' of layer 8 answers true. -/
import Derived.Test.YtnlfocmmnjgmpaaD3
import Derived.Test.YtnlfocmmnjgmpaaB7
namespace Go.Proofs.Ytnlfocmmnjgmpaa.D8
open Go.RowKit Go.Proofs.Ytnlfocmmnjgmpaa.Fl Go.Proofs.Ytnlfocmmnjgmpaa.L Go.Proofs.Ytnlfocmmnjgmpaa.B Go.Proofs.Ytnlfocmmnjgmpaa.B7 Go.Proofs.Ytnlfocmmnjgmpaa.D Go.Proofs.Ytnlfocmmnjgmpaa.D2 Go.Proofs.Ytnlfocmmnjgmpaa.D3

set_option maxRecDepth 100000 in
set_option maxHeartbeats 4000000 in
theorem told_any (w : World) : Calls Try.prog 52 #[] w fun e w' => e = .returned (.bool true) ∧ Below w.heap.size w w' := by
  go_enter Try.func52, Try.ntmps52
  go_wp2_with fail
  refine (new_yes 3 1 1 10 _ (by unfold MayP May; omega)).mono ?_
  rintro e w0 ⟨rfl, h0, hb0, hs0⟩
  have S0 : w.heap.size + 2 ≤ w0.heap.size := by omega
  clear hs0
  go_wp2_with fail
  have E1 := enter_yes (w.heap.size + 1) w.heap.size 3 10 10 10 0 0 0 1 1 10 _ h0 ⟨st_lit (by omega), ⟨by omega, by omega⟩, ⟨by omega, by omega⟩, ⟨by omega, by omega⟩, by omega, by omega⟩ (by omega) (by omega) true 0 1 0 (fun W hW => B.enter_in _ 0 0 1 1 W hW (st_lit (by omega)) (by omega))
  rw [show sumAt 10 0 0 0 10 = 0 from by decide] at E1
  refine E1.mono ?_
  rintro e w1 ⟨rfl, h1, t1⟩
  clear E1
  go_wp2_with fail
  have E2 := enter_yes (w.heap.size + 1) w.heap.size 3 10 10 10 0 1 0 1 1 15 _ h1 ⟨st_lit (by omega), ⟨by omega, by omega⟩, ⟨by omega, by omega⟩, ⟨by omega, by omega⟩, by omega, by omega⟩ (by omega) (by omega) false 0 1 1 (fun W hW => B.enter_wait _ 1 0 1 1 W hW (st_lit (by omega)) (by omega) (by omega))
  rw [show sumAt 10 0 1 0 15 = 5 from by decide] at E2
  refine E2.mono ?_
  rintro e w2 ⟨rfl, h2, t2⟩
  clear E2
  go_wp2_with fail
  have E3 := stat_yes (w.heap.size + 1) w.heap.size 3 10 10 15 5 1 1 1 1 20 _ h2 ⟨st_lit (by omega), ⟨by omega, by omega⟩, ⟨by omega, by omega⟩, ⟨by omega, by omega⟩, by omega, by omega⟩ (by omega) (by omega) (by omega)
  rw [show sumAt 15 5 1 1 20 * 1000 / (20 - 10) = 1500 from by decide, show (20 : Int) - 10 = 10 from rfl] at E3
  refine E3.mono ?_
  rintro e w3 ⟨rfl, h3, t3⟩
  clear E3
  have hb3 : Below w.heap.size w w3 := Two.below hb0 ((t1.trans t2).trans t3) (by omega) (by omega) (by omega)
  have S3 : w.heap.size + 2 ≤ w3.heap.size := by have := t1.size; have := t2.size; have := t3.size; omega
  clear t1 t2 t3 h0 h1 h2 hb0 S0
  have K6 := Blk.new w3 #[.int .i64 3, .int .i64 10, .int .i64 1500] 61
  have n61 : w3.heap.size ≠ w.heap.size + 1 := by omega
  have n62 : w3.heap.size ≠ w.heap.size := by omega
  go_wp2_with fail
  have E4 := stat_same (w.heap.size + 1) w.heap.size 3 10 20 20 0 1 1 1 1 20 _ (pd_alloc h3 (.cells #[.int .i64 3, .int .i64 10, .int .i64 1500] 61)) ⟨st_lit (by omega), ⟨by omega, by omega⟩, ⟨by omega, by omega⟩, ⟨by omega, by omega⟩, by omega, by omega⟩ (by omega) (by omega) (by omega)
  rw [show ((1 : Int) + 1) * 1000 = 2000 from rfl, show (20 : Int) - 10 = 10 from rfl] at E4
  refine E4.mono ?_
  rintro e w4 ⟨rfl, h4, t4⟩
  clear E4
  have K6' := Blk.two K6 t4 n61 n62
  have hb4 : Below w.heap.size w w4 := Two.below (hb3.alloc (by omega) _) t4 (by omega) (by omega) (by simp; omega)
  have S4 : w3.heap.size + 1 ≤ w4.heap.size := by have := t4.size; simpa using this
  clear t4 h3 hb3 K6
  have K7 := Blk.new w4 #[.int .i64 3, .int .i64 10, .int .i64 2000] 61
  have n71 : w4.heap.size ≠ w.heap.size + 1 := by omega
  have n72 : w4.heap.size ≠ w.heap.size := by omega
  go_wp2_with fail
  refine (leave_no (w.heap.size + 1) w.heap.size 3 10 20 20 0 1 1 1 1 19 _ (pd_alloc h4 (.cells #[.int .i64 3, .int .i64 10, .int .i64 2000] 61)) (by omega)).mono ?_
  rintro e w5 ⟨rfl, h5, t5⟩
  have K65 := Blk.two (Blk.alloc K6' (.cells #[.int .i64 3, .int .i64 10, .int .i64 2000] 61)) t5 n61 n62
  have K75 := Blk.two K7 t5 n71 n72
  have hb5 : Below w.heap.size w w5 := Two.below (hb4.alloc (by omega) _) t5 (by omega) (by omega) (by simp; omega)
  have S5 : w4.heap.size + 1 ≤ w5.heap.size := by have := t5.size; simpa using this
  clear t5 h4 hb4 K7 K6'
  go_wp2_with fail
  have E6 := leave_yes (w.heap.size + 1) w.heap.size 3 10 20 20 0 1 1 1 1 21 _ h5 ⟨st_lit (by omega), ⟨by omega, by omega⟩, ⟨by omega, by omega⟩, ⟨by omega, by omega⟩, by omega, by omega⟩ (by omega) (by omega) true 0 1 0 (fun W hW => B.leave_some _ 1 1 1 1 W hW (st_lit (by omega)) (by omega))
  rw [show sumAt 20 0 1 1 21 = 2 from by decide] at E6
  refine E6.mono ?_
  rintro e w6 ⟨rfl, h6, t6⟩
  clear E6
  have K66 := Blk.two K65 t6 n61 n62
  have K76 := Blk.two K75 t6 n71 n72
  have hb6 : Below w.heap.size w w6 := Two.below hb5 t6 (by omega) (by omega) (by omega)
  have S6 : w5.heap.size ≤ w6.heap.size := t6.size
  clear t6 h5 hb5 K65 K75
  have a0 : w6.cell? ⟨w3.heap.size, 0, none⟩ = some (.int .i64 3) := Blk.cell K66 0
  have a1 : w6.cell? ⟨w3.heap.size, 1, none⟩ = some (.int .i64 10) := Blk.cell K66 1
  have a2 : w6.cell? ⟨w3.heap.size, 2, none⟩ = some (.int .i64 1500) := Blk.cell K66 2
  have b2 : w6.cell? ⟨w4.heap.size, 2, none⟩ = some (.int .i64 2000) := Blk.cell K76 2
  have q1 := eqS 3 10 1500
  have q2 := guS
  have o1 : (FloatKind.f64.format.order (fl 1) 4607182418800017408 == some .eq) = true := by decide +kernel
  have o2 : (FloatKind.f64.format.order (fl 0) 0 == some .eq) = true := by decide +kernel
  have o3 : (FloatKind.f64.format.order 0 0 == some .eq) = true := by decide +kernel
  have LL := Lib.hid (D.load_any _ _ _ _ _ _ _ _ _ _ _ _ h6)
  have HB := Lib.hid hb6
  have HS : Hid (w.heap.size ≤ w6.heap.size) := by show _ ≤ _; omega
  clear K66 K76 h6 hb6 S3 S4 S5 S6 n61 n62 n71 n72
  go_wp2_with (first | (go_at_call 49; refine (D.nil_enter _ _).mono ?_; rintro e w' ⟨rfl, rfl⟩) | (go_at_call 57; ((with_reducible refine LL.out.mono ?_); rintro e w' ⟨rfl, rfl⟩)) | (go_at_call 48; refine (D.new_no _ _ _ _ _ (by unfold MayP; omega)).mono ?_; rintro e w7 ⟨rfl, hb7⟩) | (go_at_call 57; refine (D.nil_load _).mono ?_; rintro e w' ⟨rfl, rfl⟩))
  go_ret
  exact ⟨rfl, HB.out.trans (hb7.mono HS.out)⟩
end Go.Proofs.Ytnlfocmmnjgmpaa.D8
