/- TopAlways: which events come; are they few? -/
import Derived.Test.YtdgphoemjeakaaaGreatDoorR04
namespace Go.Proofs.YtdgphoemjeakaaaGreatDoor.Nf
open Go.RowKit K
set_option maxRecDepth 100000
theorem urem (a m : Int) (h0 : 0 < m) : ∃ x, 0 ≤ x ∧ x < m ∧ (IntKind.u64.wrap a).tmod m = x := by
  have e : IntKind.u64.wrap a = a % 18446744073709551616 := by simp [IntKind.wrap, IntKind.signed, IntKind.bits]
  have p : 0 ≤ IntKind.u64.wrap a := by rw [e]; omega
  refine ⟨(IntKind.u64.wrap a) % m, Int.emod_nonneg _ (by omega), Int.emod_lt_of_pos _ h0, ?_⟩
  rw [Int.tmod_eq_emod_of_nonneg p]
set_option maxHeartbeats 4000000 in
theorem near_raw (k n : Int) (t : ByteArray) (i : Nat) (hi : i ≤ 1000) (hr : (i : Int) % 11 = 10) (w : World) : Calls Tryz.prog 11 #[.agg #[.int .i64 k, .int .i64 n, .string t], .int .i64 i] w fun e w' => ∃ k' n' t', e = .returned (.agg #[.int .i64 k', .int .i64 n', .string t']) ∧ Chg No w w' := by
  go_enter Tryz.func11, Tryz.ntmps11
  go_wp2_with fail
  all_goals
    try simp only [Exit.inBlock, Exit.then]
    refine bodyPost_ret (by simp [results, Tryz.results11, go_sem]; rfl) rfl ?_
    refine ⟨_, _, _, rfl, ?_⟩
    repeat' first | exact Chg.refl No _ | refine Chg.set_new ?_ (by first | exact Nat.le_refl _ | exact Nat.le_succ _ | (simp; done) | (simp; omega)) _ | refine Chg.alloc ?_ _
set_option maxHeartbeats 4000000 in
theorem near_low (k n : Int) (t : ByteArray) (i : Nat) (hi : i ≤ 1000) (hr : ¬ (i : Int) % 11 = 10) (x : Int) (x0 : 0 ≤ x) (x1 : x < 15) (hx : (IntKind.u64.wrap k).tmod 16 = x) (w : World) : Calls Tryz.prog 11 #[.agg #[.int .i64 k, .int .i64 n, .string t], .int .i64 i] w fun e w' => ∃ k' n' t', e = .returned (.agg #[.int .i64 k', .int .i64 n', .string t']) ∧ Chg No w w' := by
  go_enter Tryz.func11, Tryz.ntmps11
  go_wp2_with fail
  all_goals
    try simp only [Exit.inBlock, Exit.then]
    refine bodyPost_ret (by simp [results, Tryz.results11, go_sem]; rfl) rfl ?_
    refine ⟨_, _, _, rfl, ?_⟩
    repeat' first | exact Chg.refl No _ | refine Chg.set_new ?_ (by first | exact Nat.le_refl _ | exact Nat.le_succ _ | (simp; done) | (simp; omega)) _ | refine Chg.alloc ?_ _
set_option maxHeartbeats 4000000 in
theorem near_conf (k n : Int) (t : ByteArray) (i : Nat) (hi : i ≤ 1000) (hr : ¬ (i : Int) % 11 = 10) (hx : (IntKind.u64.wrap k).tmod 16 = 15) (y : Int) (hy : y = 0 ∨ y = 1 ∨ y = 2 ∨ y = 3 ∨ y = 4 ∨ y = 5 ∨ y = 6 ∨ y = 7 ∨ y = 8 ∨ y = 9 ∨ y = 10 ∨ y = 11) (hy2 : (IntKind.u64.wrap n).tmod 12 = y) (w : World) : Calls Tryz.prog 11 #[.agg #[.int .i64 k, .int .i64 n, .string t], .int .i64 i] w fun e w' => ∃ k' n' t', e = .returned (.agg #[.int .i64 k', .int .i64 n', .string t']) ∧ Chg No w w' := by
  rcases hy with rfl | rfl | rfl | rfl | rfl | rfl | rfl | rfl | rfl | rfl | rfl | rfl
  all_goals
    go_enter Tryz.func11, Tryz.ntmps11
    go_wp2_with fail
  all_goals
    try simp only [Exit.inBlock, Exit.then]
    refine bodyPost_ret (by simp [results, Tryz.results11, go_sem]; rfl) rfl ?_
    refine ⟨_, _, _, rfl, ?_⟩
    repeat' first | exact Chg.refl No _ | refine Chg.set_new ?_ (by first | exact Nat.le_refl _ | exact Nat.le_succ _ | (simp; done) | (simp; omega)) _ | refine Chg.alloc ?_ _
theorem near_any (k n : Int) (t : ByteArray) (i : Nat) (hi : i ≤ 1000) (w : World) : Calls Tryz.prog 11 #[.agg #[.int .i64 k, .int .i64 n, .string t], .int .i64 i] w fun e w' => ∃ k' n' t', e = .returned (.agg #[.int .i64 k', .int .i64 n', .string t']) ∧ Chg No w w' := by
  by_cases hr : (i : Int) % 11 = 10
  · exact near_raw k n t i hi hr w
  · obtain ⟨x, x0, x1, hx⟩ := urem k 16 (by decide)
    obtain ⟨y, y0, y1, hy⟩ := urem n 12 (by decide)
    by_cases h15 : x = 15
    · exact near_conf k n t i hi hr (h15 ▸ hx) y (by omega) hy w
    · exact near_low k n t i hi hr x x0 (by omega) hx w
end Go.Proofs.YtdgphoemjeakaaaGreatDoor.Nf
