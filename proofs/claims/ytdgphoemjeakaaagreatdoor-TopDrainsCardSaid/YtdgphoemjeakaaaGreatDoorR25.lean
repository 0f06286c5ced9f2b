/- Package event: of, May. The whole service as plain functions: from one pod up, and down to none. -/
import Derived.Test.YtdgphoemjeakaaaGreatDoorR02
import Derived.Handy
import Derived.Test.YtdgphoemjeakaaaGreatDoorR06
namespace Go.Proofs.YtdgphoemjeakaaaGreatDoor.E
open Go.RowKit K
set_option maxRecDepth 100000
set_option maxHeartbeats 1000000 in
theorem of_any (k n : Int) (t : ByteArray) (w : World) : Calls Tryz.prog 49 #[.iface 32 (.agg #[.int .i64 k, .int .i64 n, .string t])] w fun e w' => e = .returned (.agg #[.int .i64 k, .int .i64 n, .string t]) ∧ Chg No w w' := by
  go_enter Tryz.func49, Tryz.ntmps49
  go_wp2
  go_returns
  exact ⟨rfl, ((Chg.refl No w).alloc _).alloc _⟩
def may (k n : Int) (full : Bool) : Bool :=
  if k != 5 && full then false else if k == 1 then decide (1 ≤ n) && decide (n ≤ 200) else if k == 2 then decide (1 ≤ n) && decide (n ≤ 100) else if k == 3 || k == 4 then decide (0 ≤ n) && decide (n ≤ 999) else if k == 6 then decide (1 ≤ n) && decide (n ≤ 50) else false
set_option maxHeartbeats 2000000 in
theorem may_full (k n : Int) (t : ByteArray) (w : World) (h5 : k ≠ 5) (ht : (!t.toList.isEmpty) = true) : Calls Tryz.prog 26 #[.agg #[.int .i64 k, .int .i64 n, .string t]] w fun e w' => e = .returned (.bool false) ∧ Chg No w w' := by
  have k5 : (k != 5) = true := bne_iff_ne.2 h5
  go_enter Tryz.func26, Tryz.ntmps26
  go_wp2_with fail
  refine (of_any _ _ _ _).mono ?_
  rintro e w1 ⟨rfl, hc⟩
  have hB := (Blk.new w #[.int .i64 k, .int .i64 n, .string t] 32).kept hc
  have HC := Lib.hid (((Chg.refl No w).alloc (.cells #[.int .i64 k, .int .i64 n, .string t] 32)).trans hc)
  have c0 : w1.cell? ⟨w.heap.size, 0, none⟩ = some (.int .i64 k) := hB.cell 0
  have c1 : w1.cell? ⟨w.heap.size, 1, none⟩ = some (.int .i64 n) := hB.cell 1
  have c2 : w1.cell? ⟨w.heap.size, 2, none⟩ = some (.string t) := hB.cell 2
  clear hc hB
  go_wp2
  go_ret
  exact ⟨rfl, HC.out⟩
set_option maxHeartbeats 8000000 in
theorem may_empty (k n : Int) (t : ByteArray) (w : World) (h5 : k ≠ 5) (ht : (!t.toList.isEmpty) = false) : Calls Tryz.prog 26 #[.agg #[.int .i64 k, .int .i64 n, .string t]] w fun e w' => e = .returned (.bool (may k n false)) ∧ Chg No w w' := by
  have k5 : (k != 5) = true := bne_iff_ne.2 h5
  have k55 : (k == 5) = false := beq_eq_false_iff_ne.2 h5
  go_enter Tryz.func26, Tryz.ntmps26
  go_wp2_with fail
  refine (of_any _ _ _ _).mono ?_
  rintro e w1 ⟨rfl, hc⟩
  have hB := (Blk.new w #[.int .i64 k, .int .i64 n, .string t] 32).kept hc
  have HC := Lib.hid (((Chg.refl No w).alloc (.cells #[.int .i64 k, .int .i64 n, .string t] 32)).trans hc)
  have c0 : w1.cell? ⟨w.heap.size, 0, none⟩ = some (.int .i64 k) := hB.cell 0
  have c1 : w1.cell? ⟨w.heap.size, 1, none⟩ = some (.int .i64 n) := hB.cell 1
  have c2 : w1.cell? ⟨w.heap.size, 2, none⟩ = some (.string t) := hB.cell 2
  clear hc hB
  cases e1 : k == 1
  · cases e2 : k == 2
    · cases e3 : k == 3
      · cases e4 : k == 4
        · cases e6 : k == 6
          · go_wp2
            go_ret
            exact ⟨by simp [may, k5, e1, e2, e3, e4, e6], HC.out⟩
          · clear e1 e2 e3 e4
            obtain rfl : k = 6 := by simpa using e6
            by_cases hlo : 1 ≤ n
            · by_cases hhi : n ≤ 50
              · have q1 : decide (1 ≤ n) = true := decide_eq_true hlo
                have q2 : decide (n ≤ 50) = true := decide_eq_true hhi
                go_wp2
                go_ret
                exact ⟨by simp [may, k5, q1, q2], HC.out⟩
              · have q1 : decide (1 ≤ n) = true := decide_eq_true hlo
                have q2 : decide (n ≤ 50) = false := decide_eq_false hhi
                go_wp2
                go_ret
                exact ⟨by simp [may, k5, q1, q2], HC.out⟩
            · have q1 : decide (1 ≤ n) = false := decide_eq_false hlo
              go_wp2
              go_ret
              exact ⟨by simp [may, k5, q1], HC.out⟩
        · obtain rfl : k = 4 := by simpa using e4
          by_cases hlo : 0 ≤ n
          · by_cases hhi : n ≤ 999
            · have q1 : decide (0 ≤ n) = true := decide_eq_true hlo
              have q2 : decide (n ≤ 999) = true := decide_eq_true hhi
              go_wp2
              go_ret
              exact ⟨by simp [may, k5, q1, q2], HC.out⟩
            · have q1 : decide (0 ≤ n) = true := decide_eq_true hlo
              have q2 : decide (n ≤ 999) = false := decide_eq_false hhi
              go_wp2
              go_ret
              exact ⟨by simp [may, k5, q1, q2], HC.out⟩
          · have q1 : decide (0 ≤ n) = false := decide_eq_false hlo
            go_wp2
            go_ret
            exact ⟨by simp [may, k5, q1], HC.out⟩
      · obtain rfl : k = 3 := by simpa using e3
        by_cases hlo : 0 ≤ n
        · by_cases hhi : n ≤ 999
          · have q1 : decide (0 ≤ n) = true := decide_eq_true hlo
            have q2 : decide (n ≤ 999) = true := decide_eq_true hhi
            go_wp2
            go_ret
            exact ⟨by simp [may, k5, q1, q2], HC.out⟩
          · have q1 : decide (0 ≤ n) = true := decide_eq_true hlo
            have q2 : decide (n ≤ 999) = false := decide_eq_false hhi
            go_wp2
            go_ret
            exact ⟨by simp [may, k5, q1, q2], HC.out⟩
        · have q1 : decide (0 ≤ n) = false := decide_eq_false hlo
          go_wp2
          go_ret
          exact ⟨by simp [may, k5, q1], HC.out⟩
    · obtain rfl : k = 2 := by simpa using e2
      by_cases hlo : 1 ≤ n
      · by_cases hhi : n ≤ 100
        · have q1 : decide (1 ≤ n) = true := decide_eq_true hlo
          have q2 : decide (n ≤ 100) = true := decide_eq_true hhi
          go_wp2
          go_ret
          exact ⟨by simp [may, k5, q1, q2], HC.out⟩
        · have q1 : decide (1 ≤ n) = true := decide_eq_true hlo
          have q2 : decide (n ≤ 100) = false := decide_eq_false hhi
          go_wp2
          go_ret
          exact ⟨by simp [may, k5, q1, q2], HC.out⟩
      · have q1 : decide (1 ≤ n) = false := decide_eq_false hlo
        go_wp2
        go_ret
        exact ⟨by simp [may, k5, q1], HC.out⟩
  · obtain rfl : k = 1 := by simpa using e1
    by_cases hlo : 1 ≤ n
    · by_cases hhi : n ≤ 200
      · have q1 : decide (1 ≤ n) = true := decide_eq_true hlo
        have q2 : decide (n ≤ 200) = true := decide_eq_true hhi
        go_wp2
        go_ret
        exact ⟨by simp [may, k5, q1, q2], HC.out⟩
      · have q1 : decide (1 ≤ n) = true := decide_eq_true hlo
        have q2 : decide (n ≤ 200) = false := decide_eq_false hhi
        go_wp2
        go_ret
        exact ⟨by simp [may, k5, q1, q2], HC.out⟩
    · have q1 : decide (1 ≤ n) = false := decide_eq_false hlo
      go_wp2
      go_ret
      exact ⟨by simp [may, k5, q1], HC.out⟩
theorem may_any (k n : Int) (t : ByteArray) (w : World) (h5 : k ≠ 5) : Calls Tryz.prog 26 #[.agg #[.int .i64 k, .int .i64 n, .string t]] w fun e w' => e = .returned (.bool (may k n (!t.toList.isEmpty))) ∧ Chg No w w' := by
  cases ht : !t.toList.isEmpty
  · exact may_empty k n t w h5 ht
  · have e : may k n true = false := by
      have k5 : (k != 5) = true := bne_iff_ne.2 h5
      simp [may, k5]
    rw [e]
    exact may_full k n t w h5 ht
end Go.Proofs.YtdgphoemjeakaaaGreatDoor.E
namespace Go.Proofs.YtdgphoemjeakaaaGreatDoor.V
set_option maxRecDepth 100000
theorem told_true : told = true := by decide +kernel
end Go.Proofs.YtdgphoemjeakaaaGreatDoor.V
