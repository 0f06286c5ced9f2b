/- PodParts. -/
import Derived.Test.YtnlfocmmnjgmpaaD4
import Derived.Deep.RegionHeld3
namespace Go.Proofs.Ytnlfocmmnjgmpaa.Pt
open Go.RowKit Go.Proofs.Ytnlfocmmnjgmpaa.Fl Go.Proofs.Ytnlfocmmnjgmpaa.L Go.Proofs.Ytnlfocmmnjgmpaa.B Go.Proofs.Ytnlfocmmnjgmpaa.B7 Go.Proofs.Ytnlfocmmnjgmpaa.D Go.Proofs.Ytnlfocmmnjgmpaa.D2 Go.Proofs.Ytnlfocmmnjgmpaa.D3 Go.Proofs.Ytnlfocmmnjgmpaa.D4

set_option maxRecDepth 100000 in
set_option maxHeartbeats 8000000 in
theorem walk (a0 a1 a2 : Int) (w : World) :
    Calls Try.prog 18 #[.int .i64 a0, .int .i64 a1, .int .i64 a2] w fun e w' => e = .returned (.bool true) ∧ Below w.heap.size w w' := by
  obtain ⟨x0, hx0, hx1, hX⟩ := urem a0 100 (by omega)
  obtain ⟨y0, hy0, hy1, hY⟩ := urem a1 100 (by omega)
  obtain ⟨z, hz0, hz1, hZ⟩ := urem a2 5 (by omega)
  go_enter Try.func18, Try.ntmps18
  go_wp2_with fail
  generalize hx : 1 + x0 = x at *
  generalize hy : 1 + y0 = y at *
  have x1 : 1 ≤ x := by omega
  have x2 : x ≤ 100 := by omega
  have y1 : 1 ≤ y := by omega
  have y2 : y ≤ 100 := by omega
  clear hx hy hx0 hx1 hy0 hy1 hX hY hZ
  refine (new_yes 1 3 9 0 _ (by unfold MayP May; omega)).mono ?_
  rintro e w0 ⟨rfl, h0, hb0, hs0⟩
  go_wp2_with fail
  refine (new_yes 2 3 9 0 _ (by unfold MayP May; omega)).mono ?_
  rintro e w1 ⟨rfl, h1, hb1, hs1⟩
  have H0 := has_below (has_new h0 (by omega)) hb1 (by omega) (by omega)
  have H1 := has_new h1 (by omega)
  have HB := hb0.trans (hb1.mono (by omega))
  have hs2 : w1.heap.size = w.heap.size + 4 := by omega
  rw [hs0] at H1
  obtain ⟨B, hB⟩ : ∃ n, n = w.heap.size := ⟨_, rfl⟩
  have BB := Lib.hid hB
  simp only [hs0, ← hB] at H0 H1 HB hs2 ⊢
  clear h0 h1 hb0 hb1 hs0 hs1 hB
  have S1 : Hid (B + 4 ≤ w1.heap.size) := by show _ ≤ _; omega
  clear hs2
  have H0' := Lib.hid H0
  have H1' := Lib.hid H1
  have HB' := Lib.hid HB
  clear H0 H1 HB
  go_wp2_with fail
  go_loopw [12] (fun i wr => ∃ j : Int, 0 ≤ j ∧ j ≤ z + 1 ∧ i = .int .i64 j ∧ Has wr (B + 1) B 1 0 0 0 0 j 3 9 ∧ Has wr (B + 2 + 1) (B + 2) 2 0 0 0 0 j 3 9 ∧ Below B w wr ∧ B + 4 ≤ wr.heap.size) (fun i _ => (z + 1 - intOf i).toNat)
  case atStart => exact ⟨0, by omega, by omega, rfl, H0'.out, H1'.out, HB'.out, S1.out⟩
  case round =>
    obtain ⟨j, j0, j1, rfl, hP, hQ, hW, hS⟩ := hrel
    clear H0' H1' HB' S1
    by_cases hlt : j ≤ z
    · have k1 : decide (j ≤ z) = true := decide_eq_true hlt
      go_wp2_with fail
      refine (enter_sum (B + 1) B 1 0 0 0 0 j 3 9 0 _ hP (by omega) (by omega) (by omega) (by omega) (by omega) (by omega) (by omega) (by omega)).mono ?_
      rintro e wa ⟨r1, rfl, hP1, t1⟩
      have hQ1 := has_two hQ t1 (by omega) (by omega) (by omega) (by omega)
      have hW1 := Two.below hW t1 (by omega) (by omega) (by omega)
      have hS1 : B + 4 ≤ wa.heap.size := by have := t1.size; omega
      clear hP hQ hW hS t1
      go_wp2_with fail
      refine (enter_sum (B + 2 + 1) (B + 2) 2 0 0 0 0 j 3 9 0 _ hQ1 (by omega) (by omega) (by omega) (by omega) (by omega) (by omega) (by omega) (by omega)).mono ?_
      rintro e wb ⟨r2, rfl, hQ2, t2⟩
      have hP2 := has_two hP1 t2 (by omega) (by omega) (by omega) (by omega)
      have hW2 := Two.below hW1 t2 (by omega) (by omega) (by omega)
      have hS2 : B + 4 ≤ wb.heap.size := by have := t2.size; omega
      clear hP1 hQ1 hW1 hS1 t2
      go_wp2_with fail
      go_roundw
      case rel => exact ⟨j + 1, by omega, by omega, rfl, (by simpa using hP2), (by simpa using hQ2), hW2, hS2⟩
      case measure => simp [intOf]; omega
    · obtain rfl : z + 1 = j := by omega
      have k1 : decide (z + 1 ≤ z) = false := decide_eq_false (by omega)
      go_wp2_with fail
      obtain ⟨LA, hLA⟩ : ∃ n, n = 1000 * (z + 1) := ⟨_, rfl⟩
      obtain ⟨LB, hLB⟩ : ∃ n, n = 1000 * z := ⟨_, rfl⟩
      obtain ⟨m1, hm1⟩ : ∃ n, n = (z + 1) * x := ⟨_, rfl⟩
      obtain ⟨m2, hm2⟩ : ∃ n, n = z * y := ⟨_, rfl⟩
      obtain ⟨LC, hLC⟩ : ∃ n, n = (m1 + m2) * 1000 / (x + y) := ⟨_, rfl⟩
      have m10 : 0 ≤ m1 := by rw [hm1]; exact Int.mul_nonneg (by omega) (by omega)
      have m11 : m1 ≤ 5 * x := by rw [hm1]; exact Int.mul_le_mul_of_nonneg_right (by omega) (by omega)
      have m20 : 0 ≤ m2 := by rw [hm2]; exact Int.mul_nonneg (by omega) (by omega)
      have m21 : m2 ≤ 5 * y := by rw [hm2]; exact Int.mul_le_mul_of_nonneg_right (by omega) (by omega)
      have c0 : 0 ≤ LC := by rw [hLC]; exact Int.ediv_nonneg (by omega) (by omega)
      have c1 : LC ≤ (m1 + m2) * 1000 := by rw [hLC]; exact Int.ediv_le_self _ (by omega)
      have g1 : (0 + (x - 0) * (z + 1)) * 1000 / (x - 0) = LA := by
        rw [Int.sub_zero, Int.zero_add, Int.mul_assoc, Int.mul_ediv_cancel_left _ (by omega)]; omega
      have g2 : (0 + (x + y - x) * z) * 1000 / (x + y - x) = LB := by
        rw [show x + y - x = y from by omega, Int.zero_add, Int.mul_assoc, Int.mul_ediv_cancel_left _ (by omega)]; omega
      have g3 : (m1 + (x + y - x) * z) * 1000 / (x + y - 0) = LC := by
        rw [show x + y - x = y from by omega, Int.sub_zero, Int.mul_comm y z, ← hm2, hLC]
      have g4 : 0 + (x - 0) * (z + 1) = m1 := by rw [Int.sub_zero, Int.zero_add, Int.mul_comm, hm1]
      have f2 : IntKind.i64.wrap (1000 * (z + 1)) = LA := by rw [hLA]; exact wrap_in (by omega) (by omega)
      have f3 : IntKind.i64.wrap (1000 * z) = LB := by rw [hLB]; exact wrap_in (by omega) (by omega)
      have f4 : IntKind.i64.wrap ((z + 1) * x) = m1 := by rw [← hm1]; exact wrap_in (by omega) (by omega)
      have f5 : IntKind.i64.wrap (z * y) = m2 := by rw [← hm2]; exact wrap_in (by omega) (by omega)
      have f6 : IntKind.i64.wrap (m1 + m2) = m1 + m2 := wrap_in (by omega) (by omega)
      have f7 : IntKind.i64.wrap (1000 * (m1 + m2)) = 1000 * (m1 + m2) := wrap_in (by omega) (by omega)
      have f8 : IntKind.i64.wrap ((1000 * (m1 + m2)).tdiv (x + y)) = LC := by
        rw [Int.tdiv_eq_ediv_of_nonneg (by omega), Int.mul_comm, ← hLC]; exact wrap_in (by omega) (by omega)
      have f9 : IntKind.i64.wrap (x + y) = x + y := wrap_in (by omega) (by omega)
      have f0 : ¬ x + y = 0 := by omega
      have bd : LA = 1000 * (z + 1) ∧ LB = 1000 * z := ⟨hLA, hLB⟩
      have b2 : (LA == IntKind.i64.wrap (1000 * IntKind.i64.wrap (z + 1))) = true := by rw [show IntKind.i64.wrap (z + 1) = z + 1 from wrap_in (by omega) (by omega), f2]; exact beq_self_eq_true _
      have b3 : (LB == IntKind.i64.wrap (1000 * z)) = true := by rw [f3]; exact beq_self_eq_true _
      have b8 : (LC == IntKind.i64.wrap ((1000 * (m1 + m2)).tdiv (x + y))) = true := by rw [f8]; exact beq_self_eq_true _
      have F := Lib.hid (And.intro b2 (And.intro b3 (And.intro b8 f0)))
      have F4 := Lib.hid f4
      have F5 := Lib.hid f5
      have F6 := Lib.hid f6
      have F7 := Lib.hid f7
      have F9 := Lib.hid f9
      clear b2 b3 b8 hLA hLB hm1 hm2 hLC f2 f3 f4 f5 f6 f7 f8 f9 f0 bd
      refine (stat_sum (B + 1) B 1 0 0 0 0 (z + 1) 3 9 x _ hP (by omega) (by omega) (by omega) (by omega) (by omega) (by omega) (by omega) (by omega) (by omega) LA g1).mono ?_
      rintro e wa ⟨rfl, hPa, ta⟩
      have hQa := has_two hQ ta (by omega) (by omega) (by omega) (by omega)
      have hWa := Two.below hW ta (by omega) (by omega) (by omega)
      have hSa : B + 4 ≤ wa.heap.size := by have := ta.size; omega
      clear hP hQ hW hS ta g1
      rw [Int.sub_zero]
      go_wp2_with fail
      have hPb := has_alloc hPa (.cells #[.int .i64 1, .int .i64 x, .int .i64 LA] 61)
      have hQb := has_alloc hQa (.cells #[.int .i64 1, .int .i64 x, .int .i64 LA] 61)
      have hWb := hWa.alloc (by omega) (.cells #[.int .i64 1, .int .i64 x, .int .i64 LA] 61)
      have KS := Blk.new wa #[.int .i64 1, .int .i64 x, .int .i64 LA] 61
      have hSb : B + 4 ≤ (wa.alloc (.cells #[.int .i64 1, .int .i64 x, .int .i64 LA] 61)).heap.size := by simp; omega
      have hsa : wa.heap.size < (wa.alloc (.cells #[.int .i64 1, .int .i64 x, .int .i64 LA] 61)).heap.size := by simp
      refine (leave_sum (B + 1) B 1 0 x x 0 (z + 1) 3 9 x _ hPb (by omega) (by omega) (by omega) (by omega) (by omega) (by omega) (by omega) (by omega) (by omega)).mono ?_
      generalize wa.alloc (.cells #[.int .i64 1, .int .i64 x, .int .i64 LA] 61) = wb at *
      clear hPa hQa hWa
      rintro e wc ⟨r1, rfl, hPc, tc⟩
      have hQc := has_two hQb tc (by omega) (by omega) (by omega) (by omega)
      have hWc := Two.below hWb tc (by omega) (by omega) (by omega)
      have hSc : B + 4 ≤ wc.heap.size ∧ wa.heap.size < wc.heap.size := by have := tc.size; omega
      have KSc := Blk.two KS tc (by omega) (by omega)
      clear hPb hQb hWb hSb tc KS hsa
      go_wp2_with fail
      refine (leave_sum (B + 2 + 1) (B + 2) 2 0 0 0 0 (z + 1) 3 9 x _ hQc (by omega) (by omega) (by omega) (by omega) (by omega) (by omega) (by omega) (by omega) (by omega)).mono ?_
      rintro e wd ⟨r2, rfl, hQd, td⟩
      have hPd := has_two hPc td (by omega) (by omega) (by omega) (by omega)
      have hWd := Two.below hWc td (by omega) (by omega) (by omega)
      have hSd : B + 4 ≤ wd.heap.size ∧ wa.heap.size < wd.heap.size := by have := td.size; omega
      have KSd := Blk.two KSc td (by omega) (by omega)
      clear hPc hQc hWc hSc td KSc
      rw [g4, show z + 1 - 1 = z from by omega] at hQd
      rw [show (0 : Int) + (x - x) * (z + 1) = 0 from by simp, show z + 1 - 1 = z from by omega] at hPd
      clear g4
      go_wp2_with fail
      refine (stat_sum (B + 1) B 1 0 x x 0 z 3 9 (x + y) _ hPd (by omega) (by omega) (by omega) (by omega) (by omega) (by omega) (by omega) (by omega) (by omega) LB g2).mono ?_
      rintro e we ⟨rfl, hPe, te⟩
      have hQe := has_two hQd te (by omega) (by omega) (by omega) (by omega)
      have hWe := Two.below hWd te (by omega) (by omega) (by omega)
      have hSe : B + 4 ≤ we.heap.size ∧ wa.heap.size < we.heap.size := by have := te.size; omega
      have KSe := Blk.two KSd te (by omega) (by omega)
      clear hPd hQd hWd hSd te KSd g2
      rw [Int.sub_zero]
      go_wp2_with fail
      have hQf := has_alloc hQe (.cells #[.int .i64 1, .int .i64 (x + y), .int .i64 LB] 61)
      have hWf := hWe.alloc (by omega) (.cells #[.int .i64 1, .int .i64 (x + y), .int .i64 LB] 61)
      have KT := Blk.new we #[.int .i64 1, .int .i64 (x + y), .int .i64 LB] 61
      have KSf := Blk.alloc KSe (.cells #[.int .i64 1, .int .i64 (x + y), .int .i64 LB] 61)
      have hsf : (we.alloc (.cells #[.int .i64 1, .int .i64 (x + y), .int .i64 LB] 61)).heap.size = we.heap.size + 1 := by simp
      refine (stat_sum (B + 2 + 1) (B + 2) 2 0 0 x m1 z 3 9 (x + y) _ hQf (by omega) (by omega) (by omega) (by omega) (by omega) (by omega) (by omega) (by omega) (by omega) LC g3).mono ?_
      generalize we.alloc (.cells #[.int .i64 1, .int .i64 (x + y), .int .i64 LB] 61) = wf at *
      clear hPe hQe hWe KSe
      rintro e wg ⟨rfl, hQg, tg⟩
      have hWg := Two.below hWf tg (by omega) (by omega) (by omega)
      have hSg : B + 4 ≤ wg.heap.size ∧ wa.heap.size < we.heap.size ∧ we.heap.size < wg.heap.size := by have := tg.size; omega
      have KSg := Blk.two KSf tg (by omega) (by omega)
      have KTg := Blk.two KT tg (by omega) (by omega)
      clear hQf hWf hSe hsf tg KSf KT g3 hQg
      rw [Int.sub_zero]
      have q1 := F4.out
      have q2 := F5.out
      have q3 := F6.out
      go_wp2_with fail
      have hWh := Lib.hid (hWg.alloc (by omega) (.cells #[.int .i64 2, .int .i64 (x + y), .int .i64 LC] 61))
      have SS : Hid (B ≤ (wg.alloc (.cells #[.int .i64 2, .int .i64 (x + y), .int .i64 LC] 61)).drew.heap.size) := by show B ≤ (wg.alloc _).heap.size; simp; omega
      have KU : Blk (wg.alloc (.cells #[.int .i64 2, .int .i64 (x + y), .int .i64 LC] 61)).drew wg.heap.size #[.int .i64 2, .int .i64 (x + y), .int .i64 LC] 61 := Blk.new wg _ _
      have KSh : Blk (wg.alloc (.cells #[.int .i64 2, .int .i64 (x + y), .int .i64 LC] 61)).drew wa.heap.size #[.int .i64 1, .int .i64 x, .int .i64 LA] 61 := Blk.alloc KSg _
      have KTh : Blk (wg.alloc (.cells #[.int .i64 2, .int .i64 (x + y), .int .i64 LC] 61)).drew we.heap.size #[.int .i64 1, .int .i64 (x + y), .int .i64 LB] 61 := Blk.alloc KTg _
      have ZZ : wa.heap.size < (wg.alloc (.cells #[.int .i64 2, .int .i64 (x + y), .int .i64 LC] 61)).drew.heap.size ∧ we.heap.size < (wg.alloc (.cells #[.int .i64 2, .int .i64 (x + y), .int .i64 LC] 61)).drew.heap.size ∧ wg.heap.size < (wg.alloc (.cells #[.int .i64 2, .int .i64 (x + y), .int .i64 LC] 61)).drew.heap.size := by
        show _ < (wg.alloc _).heap.size ∧ _ < (wg.alloc _).heap.size ∧ _ < (wg.alloc _).heap.size
        simp; omega
      have KK := Lib.hid fun (wt : World) (hbt : Below (wg.alloc (.cells #[.int .i64 2, .int .i64 (x + y), .int .i64 LC] 61)).drew.heap.size (wg.alloc (.cells #[.int .i64 2, .int .i64 (x + y), .int .i64 LC] 61)).drew wt) => And.intro (Blk.below KSh hbt ZZ.1) (And.intro (Blk.below KTh hbt ZZ.2.1) (Blk.below KU hbt ZZ.2.2))
      have s2 : (wg.alloc (.cells #[.int .i64 2, .int .i64 (x + y), .int .i64 LC] 61)).cell? ⟨wa.heap.size, 2, none⟩ = some (.int .i64 LA) := Blk.cell KSh 2
      have t1 : (wg.alloc (.cells #[.int .i64 2, .int .i64 (x + y), .int .i64 LC] 61)).cell? ⟨we.heap.size, 1, none⟩ = some (.int .i64 (x + y)) := Blk.cell KTh 1
      have t2 : (wg.alloc (.cells #[.int .i64 2, .int .i64 (x + y), .int .i64 LC] 61)).cell? ⟨we.heap.size, 2, none⟩ = some (.int .i64 LB) := Blk.cell KTh 2
      have u0 : (wg.alloc (.cells #[.int .i64 2, .int .i64 (x + y), .int .i64 LC] 61)).cell? ⟨wg.heap.size, 0, none⟩ = some (.int .i64 2) := Blk.cell KU 0
      have u1 : (wg.alloc (.cells #[.int .i64 2, .int .i64 (x + y), .int .i64 LC] 61)).cell? ⟨wg.heap.size, 1, none⟩ = some (.int .i64 (x + y)) := Blk.cell KU 1
      have u2 : (wg.alloc (.cells #[.int .i64 2, .int .i64 (x + y), .int .i64 LC] 61)).cell? ⟨wg.heap.size, 2, none⟩ = some (.int .i64 LC) := Blk.cell KU 2
      obtain ⟨r2, r3, r8, r0⟩ := F.out
      have r7 := F7.out
      have r9 := F9.out
      clear hWg KSg KTg KU KSh KTh ZZ hSg F F4 F5 F6 F7 F9 q1 q2
      go_region_held3 (fun w' => w'.cell? ⟨wa.heap.size, 2, none⟩ = some (.int .i64 LA) ∧ w'.cell? ⟨we.heap.size, 1, none⟩ = some (.int .i64 (x + y)) ∧ w'.cell? ⟨we.heap.size, 2, none⟩ = some (.int .i64 LB) ∧ w'.cell? ⟨wg.heap.size, 0, none⟩ = some (.int .i64 2) ∧ w'.cell? ⟨wg.heap.size, 1, none⟩ = some (.int .i64 (x + y)) ∧ w'.cell? ⟨wg.heap.size, 2, none⟩ = some (.int .i64 LC)) (first | go_keep | exact ⟨s2, t1, t2, u0, u1, u2⟩ | exact ⟨Blk.cell (KK.out _ ‹_›).1 2, Blk.cell (KK.out _ ‹_›).2.1 1, Blk.cell (KK.out _ ‹_›).2.1 2, Blk.cell (KK.out _ ‹_›).2.2 0, Blk.cell (KK.out _ ‹_›).2.2 1, Blk.cell (KK.out _ ‹_›).2.2 2⟩)
        (first | (go_at_call 52; refine (D8.told_any _).mono ?_; rintro e wt ⟨rfl, hbt⟩))
      all_goals
        go_wp2
        go_ret
        exact ⟨by first | rfl | simp, BB.out ▸ ((hWh.out.drew).trans (hbt.mono SS.out))⟩
end Go.Proofs.Ytnlfocmmnjgmpaa.Pt
