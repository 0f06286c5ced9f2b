/- PodWrong. -/
import Derived.Test.YtnlfocmmnjgmpaaD8
namespace Go.Proofs.Ytnlfocmmnjgmpaa.Pw
open Go.RowKit Go.Proofs.Ytnlfocmmnjgmpaa.Fl Go.Proofs.Ytnlfocmmnjgmpaa.L Go.Proofs.Ytnlfocmmnjgmpaa.B Go.Proofs.Ytnlfocmmnjgmpaa.B7 Go.Proofs.Ytnlfocmmnjgmpaa.D Go.Proofs.Ytnlfocmmnjgmpaa.D2 Go.Proofs.Ytnlfocmmnjgmpaa.D3

/-- 'uint(a) % m', m a number. -/
theorem urem (a m : Int) (h0 : 0 < m) : ∃ x, 0 ≤ x ∧ x < m ∧ (IntKind.u64.wrap a).tmod m = x := by
  have e : IntKind.u64.wrap a = a % 18446744073709551616 := by simp [IntKind.wrap, IntKind.signed, IntKind.bits]
  have p : 0 ≤ IntKind.u64.wrap a := by rw [e]; omega
  refine ⟨(IntKind.u64.wrap a) % m, Int.emod_nonneg _ (by omega), Int.emod_lt_of_pos _ h0, ?_⟩
  rw [Int.tmod_eq_emod_of_nonneg p]

set_option maxHeartbeats 400000 in
theorem uint64r_any (n : Int) (w : World) (h0 : 0 ≤ n) (h1 : n ≤ 9223372036854775807) : Calls Try.prog 47 #[.int .i64 n] w fun e w' => e = .returned (.int .u64 n) ∧ w = w' := by
  have e : IntKind.u64.wrap n = n := by rw [show IntKind.u64.wrap n = n % 18446744073709551616 from by simp [IntKind.wrap, IntKind.signed, IntKind.bits]]; omega
  go_enter Try.func47, Try.ntmps47
  go_wp2
  go_ret
  exact ⟨rfl, rfl⟩

set_option maxRecDepth 100000 in
set_option maxHeartbeats 4000000 in
theorem walk (a0 a1 : Int) (w : World) :
    Calls Try.prog 14 #[.int .i64 a0, .int .i64 a1] w fun e w' => e = .returned (.bool true) ∧ Below w.heap.size w w' := by
  obtain ⟨x, hx0, hx1, hX⟩ := urem a0 1000000 (by omega)
  obtain ⟨r, hr0, hr1, hR⟩ := urem a1 (1 + x) (by omega)
  go_enter Try.func14, Try.ntmps14
  go_wp2_with fail
  generalize ht : 1 + x = t at *
  have t0 : 1 ≤ t := by omega
  have t1 : t ≤ 1000000 := by omega
  have tn : ¬ t = 0 := by omega
  clear ht hX hx0 hx1
  go_wp2_with (go_at_call 47; refine (uint64r_any _ _ (by omega) (by omega)).mono ?_; rintro e w' ⟨rfl, rfl⟩)
  generalize hb : t - 1 - r = b at *
  have b0 : 0 ≤ b := by omega
  have b1 : b < t := by omega
  clear hb
  refine (new_yes 4 2 2 t _ (by unfold MayP May; omega)).mono ?_
  rintro e w0 ⟨rfl, h0, hb0, hs0⟩
  have S0 : w.heap.size + 2 ≤ w0.heap.size := by omega
  clear hs0
  go_wp2_with fail
  have E1 := enter_yes (w.heap.size + 1) w.heap.size 4 t t t 0 0 0 2 2 t _ h0 ⟨st_lit (by omega), ⟨by omega, by omega⟩, ⟨by omega, by omega⟩, ⟨by omega, by omega⟩, by omega, by omega⟩ (by omega) (by omega) true 0 1 0 (fun W hW => B.enter_in _ 0 0 2 2 W hW (st_lit (by omega)) (by omega))
  rw [show sumAt t 0 0 0 t = 0 from by unfold sumAt; omega] at E1
  refine E1.mono ?_
  rintro e w1 ⟨rfl, h1, t1'⟩
  clear E1
  go_wp2_with fail
  refine (enter_no (w.heap.size + 1) w.heap.size 4 t t t 0 1 0 2 2 b _ h1 (by omega)).mono ?_
  rintro e w2 ⟨rfl, h2, t2⟩
  go_wp2_with fail
  refine (leave_no (w.heap.size + 1) w.heap.size 4 t t t 0 1 0 2 2 b _ h2 (by omega)).mono ?_
  rintro e w3 ⟨rfl, h3, t3⟩
  go_wp2_with fail
  refine (stat_no (w.heap.size + 1) w.heap.size 4 t t t 0 1 0 2 2 b _ h3 (by omega)).mono ?_
  rintro e w4 ⟨rfl, h4, t4⟩
  have hb4 : Below w.heap.size w w4 := Two.below hb0 (((t1'.trans t2).trans t3).trans t4) (by omega) (by omega) (by omega)
  have S4 : w.heap.size + 2 ≤ w4.heap.size := by have := t1'.size; have := t2.size; have := t3.size; have := t4.size; omega
  clear t1' t2 t3 t4 h0 h1 h2 h3 hb0 S0
  have K6 := Blk.new w4 #[.int .i64 0, .int .i64 0, .int .i64 0] 61
  have n61 : w4.heap.size ≠ w.heap.size + 1 := by omega
  have n62 : w4.heap.size ≠ w.heap.size := by omega
  go_wp2_with fail
  refine (enter_no (w.heap.size + 1) w.heap.size 4 t t t 0 1 0 2 2 1099511627777 _ (pd_alloc h4 (.cells #[.int .i64 0, .int .i64 0, .int .i64 0] 61)) (by omega)).mono ?_
  rintro e w5 ⟨rfl, h5, t5⟩
  have K65 := Blk.two K6 t5 n61 n62
  have hb5 : Below w.heap.size w w5 := Two.below (hb4.alloc (by omega) _) t5 (by omega) (by omega) (by simp; omega)
  have S5 : w4.heap.size + 1 ≤ w5.heap.size := by have := t5.size; simpa using this
  clear t5 h4 hb4 K6
  go_wp2_with fail
  have E6 := stat_yes (w.heap.size + 1) w.heap.size 4 t t t 0 1 0 2 2 (t + 10) _ h5 ⟨st_lit (by omega), ⟨by omega, by omega⟩, ⟨by omega, by omega⟩, ⟨by omega, by omega⟩, by omega, by omega⟩ (by omega) (by omega) (by omega)
  rw [show sumAt t 0 1 0 (t + 10) = 10 from by unfold sumAt; omega, show t + 10 - t = 10 from by omega, show (10 : Int) * 1000 / 10 = 1000 from rfl] at E6
  refine E6.mono ?_
  rintro e w6 ⟨rfl, h6, t6⟩
  clear E6
  have K66 := Blk.two K65 t6 n61 n62
  have hb6 : Below w.heap.size w w6 := Two.below hb5 t6 (by omega) (by omega) (by omega)
  have S6 : w5.heap.size ≤ w6.heap.size := t6.size
  clear t6 h5 hb5 K65
  have K7 := Blk.new w6 #[.int .i64 4, .int .i64 10, .int .i64 1000] 61
  have K67 := Blk.alloc K66 (.cells #[.int .i64 4, .int .i64 10, .int .i64 1000] 61)
  have TT := Lib.hid (D8.told_any (w6.alloc (.cells #[.int .i64 4, .int .i64 10, .int .i64 1000] 61)))
  go_wp2_with fail
  refine TT.out.mono ?_
  rintro e w7 ⟨rfl, hb7⟩
  have K68 := Blk.below K67 hb7 (by simp; omega)
  have K78 := Blk.below K7 hb7 (by simp)
  have HB := Lib.hid ((hb6.alloc (by omega) _).trans (hb7.mono (by simp; omega)))
  have HS : Hid (w.heap.size ≤ w7.heap.size) := by show _ ≤ _; have := hb7.size; simp at this; omega
  have a0' : w7.cell? ⟨w4.heap.size, 0, none⟩ = some (.int .i64 0) := Blk.cell K68 0
  have a1' : w7.cell? ⟨w4.heap.size, 1, none⟩ = some (.int .i64 0) := Blk.cell K68 1
  have a2' : w7.cell? ⟨w4.heap.size, 2, none⟩ = some (.int .i64 0) := Blk.cell K68 2
  have b0' : w7.cell? ⟨w6.heap.size, 0, none⟩ = some (.int .i64 4) := Blk.cell K78 0
  have b1' : w7.cell? ⟨w6.heap.size, 1, none⟩ = some (.int .i64 10) := Blk.cell K78 1
  have b2' : w7.cell? ⟨w6.heap.size, 2, none⟩ = some (.int .i64 1000) := Blk.cell K78 2
  have q1 := eqS 4 10 1000
  have q2 := guS
  have q3 := eqS 0 0 0
  clear K66 K67 K7 K68 K78 h6 hb6 hb7 S4 S5 S6 n61 n62 TT
  go_wp2_with fail
  refine (D.new_no _ _ _ _ _ (by unfold MayP; omega)).mono ?_
  rintro e w8 ⟨rfl, hb8⟩
  go_wp2_with fail
  refine (D.new_no _ _ _ _ _ (by unfold MayP May; omega)).mono ?_
  rintro e w9 ⟨rfl, hb9⟩
  go_wp2
  go_ret
  exact ⟨rfl, (HB.out.trans (hb8.mono HS.out)).trans (hb9.mono (by have := HS.out; have := hb8.size; omega))⟩
end Go.Proofs.Ytnlfocmmnjgmpaa.Pw
