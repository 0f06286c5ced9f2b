/- What the document's breaker does (spinnakerref5), and Of of spinnakerref1. -/
import Derived.Test.YtnlfocmmnjgmpaaB
import Derived.RegionTactic
import Derived.ChangeAlike
namespace Go.Proofs.Ytnlfocmmnjgmpaa.R
open Go.RowKit Go.Proofs.Ytnlfocmmnjgmpaa.Fl Go.Proofs.Ytnlfocmmnjgmpaa.L Go.Proofs.Ytnlfocmmnjgmpaa.B

/-- The document's breaker. -/
def Rb (w : World) (g : Nat) (a b l d : Int) : Prop := Blk w g #[.int .i64 l, .int .i64 d, .int .i64 a, .int .i64 b] 53

theorem Rb.seta {w : World} {g : Nat} {a b l d : Int} (h : Rb w g a b l d) (a' : Int) : Rb (w.setCell ⟨g, 2, none⟩ (.int .i64 a')) g a' b l d := Blk.set h 2 _
theorem Rb.setb {w : World} {g : Nat} {a b l d : Int} (h : Rb w g a b l d) (b' : Int) : Rb (w.setCell ⟨g, 3, none⟩ (.int .i64 b')) g a b' l d := Blk.set h 3 _
theorem Rb.setl {w : World} {g : Nat} {a b l d : Int} (h : Rb w g a b l d) (l' : Int) : Rb (w.setCell ⟨g, 0, none⟩ (.int .i64 l')) g a b l' d := Blk.set h 0 _
theorem Rb.drewN {w : World} {g : Nat} {a b l d : Int} (h : Rb w g a b l d) (n : Nat) : Rb (w.drewN n) g a b l d := h

def Post (w : World) (g : Nat) (v : Value) (a b l d : Int) (e : Ending) (w' : World) : Prop := e = .returned v ∧ Rb w' g a b l d ∧ w.grownBy w' (some g)

set_option maxHeartbeats 400000 in
theorem cut_any (n : Int) (w : World) : Calls Try.prog 60 #[.int .i64 n] w fun e w' => e = .returned (.int .i64 (cut n)) ∧ w = w' := by
  go_enter Try.func60, Try.ntmps60
  go_wp2
  all_goals
    go_ret
    exact ⟨ret_int (by unfold cut; omega), rfl⟩

set_option maxHeartbeats 400000 in
theorem of_any (a b : Int) (w : World) : Calls Try.prog 45 #[.int .i64 a, .int .i64 b] w fun e w' => e = .returned (.complex .f64 (fl (cut a)) (fl (cut b))) ∧ w = w' := by
  have hc := tofloat
  go_enter Try.func45, Try.ntmps45
  go_wp2_with (go_at_call 60; refine (cut_any _ _).mono ?_; rintro e w' ⟨rfl, rfl⟩)
  go_ret
  exact ⟨rfl, rfl⟩
theorem of_in (a b : Int) (w : World) (ha : In a) (hb : In b) : Calls Try.prog 45 #[.int .i64 a, .int .i64 b] w fun e w' => e = .returned (.complex .f64 (fl a) (fl b)) ∧ w = w' := by
  have h := of_any a b w
  rwa [cut_in ha.1 ha.2, cut_in hb.1 hb.2] at h

set_option maxHeartbeats 1000000 in
theorem new_yes (l d : Int) (w : World) (h : May l d) : Calls Try.prog 38 #[.int .i64 l, .int .i64 d] w fun e w' => e = .returned (.pointer (some ⟨w.heap.size, 0, none⟩)) ∧ Rb w' w.heap.size 0 0 l d ∧ w' = w.alloc (.cells #[.int .i64 l, .int .i64 d, .int .i64 0, .int .i64 0] 53) := by
  obtain ⟨l0, l1, d0, d1⟩ := h
  have k1 : decide (l < 0) = false := decide_eq_false (by omega)
  have k2 : decide (1000 < l) = false := decide_eq_false (by omega)
  have k3 : decide (d < 0) = false := decide_eq_false (by omega)
  have k4 : decide (1000 < d) = false := decide_eq_false (by omega)
  go_enter Try.func38, Try.ntmps38
  go_wp2
  go_ret
  exact ⟨rfl, Blk.new _ _ _, rfl⟩

set_option maxHeartbeats 1000000 in
theorem new_no (l d : Int) (w : World) (h : ¬ May l d) : Calls Try.prog 38 #[.int .i64 l, .int .i64 d] w fun e w' => e = .returned (.pointer none) ∧ w = w' := by
  have h' : l < 0 ∨ (0 ≤ l ∧ 1000 < l) ∨ (0 ≤ l ∧ l ≤ 1000 ∧ d < 0) ∨ (0 ≤ l ∧ l ≤ 1000 ∧ 0 ≤ d ∧ 1000 < d) := by unfold May at h; omega
  clear h
  rcases h' with h1 | ⟨h1, h2⟩ | ⟨h1, h2, h3⟩ | ⟨h1, h2, h3, h4⟩
  all_goals
    go_enter Try.func38, Try.ntmps38
    go_wp2
    go_ret
    exact ⟨rfl, rfl⟩

set_option maxHeartbeats 1000000 in
theorem free_any (g : Nat) (a b l d : Int) (w : World) (h : Rb w g a b l d) (s : St a b l d) : Calls Try.prog 46 #[.pointer (some ⟨g, 0, none⟩)] w fun e w' => e = .returned (.int .i64 (max (l - a) 0)) ∧ ∃ n, w' = w.drewN n := by
  obtain ⟨⟨a0, a1⟩, ⟨b0, b1⟩, ⟨l0, l1⟩, d0, d1⟩ := s
  have cl : w.cell? ⟨g, 0, none⟩ = some (.int .i64 l) := Blk.cell h 0
  have cd : w.cell? ⟨g, 1, none⟩ = some (.int .i64 d) := Blk.cell h 1
  have ca : w.cell? ⟨g, 2, none⟩ = some (.int .i64 a) := Blk.cell h 2
  have cb : w.cell? ⟨g, 3, none⟩ = some (.int .i64 b) := Blk.cell h 3
  have f0 := Blk.free h 0
  have f2 := Blk.free h 2
  have f3 := Blk.free h 3
  have H := Lib.hid h
  clear h
  clear f0 f2 f3 H cd cb
  by_cases hc : l - a < 0
  all_goals
    go_enter Try.func46, Try.ntmps46
    go_wp2
    go_quiet (fail)
    go_wp2
    go_ret
    exact ⟨ret_int (by omega), _, rfl⟩

set_option maxHeartbeats 1000000 in
theorem enter_in (g : Nat) (a b l d : Int) (w : World) (h : Rb w g a b l d) (s : St a b l d) (hal : a < l) : Calls Try.prog 39 #[.pointer (some ⟨g, 0, none⟩)] w (Post w g (.tuple #[.bool true, .int .i64 0]) (a + 1) b l d) := by
  obtain ⟨⟨a0, a1⟩, ⟨b0, b1⟩, ⟨l0, l1⟩, d0, d1⟩ := s
  have cl : w.cell? ⟨g, 0, none⟩ = some (.int .i64 l) := Blk.cell h 0
  have cd : w.cell? ⟨g, 1, none⟩ = some (.int .i64 d) := Blk.cell h 1
  have ca : w.cell? ⟨g, 2, none⟩ = some (.int .i64 a) := Blk.cell h 2
  have cb : w.cell? ⟨g, 3, none⟩ = some (.int .i64 b) := Blk.cell h 3
  have f0 := Blk.free h 0
  have f2 := Blk.free h 2
  have f3 := Blk.free h 3
  have H := Lib.hid h
  clear h
  go_enter Try.func39, Try.ntmps39
  go_wp2
  go_quiet (fail)
  go_wp2
  go_ret2
  exact ⟨rfl, (H.out.drewN _).seta _, grown_set (grown_drewN (grown_refl _ _) _) 2 _⟩

set_option maxHeartbeats 1000000 in
theorem enter_wait (g : Nat) (a b l d : Int) (w : World) (h : Rb w g a b l d) (s : St a b l d) (hal : ¬ a < l) (hbd : b < d) : Calls Try.prog 39 #[.pointer (some ⟨g, 0, none⟩)] w (Post w g (.tuple #[.bool false, .int .i64 0]) a (b + 1) l d) := by
  obtain ⟨⟨a0, a1⟩, ⟨b0, b1⟩, ⟨l0, l1⟩, d0, d1⟩ := s
  have cl : w.cell? ⟨g, 0, none⟩ = some (.int .i64 l) := Blk.cell h 0
  have cd : w.cell? ⟨g, 1, none⟩ = some (.int .i64 d) := Blk.cell h 1
  have ca : w.cell? ⟨g, 2, none⟩ = some (.int .i64 a) := Blk.cell h 2
  have cb : w.cell? ⟨g, 3, none⟩ = some (.int .i64 b) := Blk.cell h 3
  have f0 := Blk.free h 0
  have f2 := Blk.free h 2
  have f3 := Blk.free h 3
  have H := Lib.hid h
  clear h
  go_enter Try.func39, Try.ntmps39
  go_wp2
  go_quiet (fail)
  go_wp2
  go_quiet (fail)
  go_wp2
  go_ret2
  exact ⟨rfl, (H.out.drewN _).setb _, grown_set (grown_drewN (grown_refl _ _) _) 3 _⟩

set_option maxHeartbeats 1000000 in
theorem enter_full (g : Nat) (a b l d : Int) (w : World) (h : Rb w g a b l d) (s : St a b l d) (hal : ¬ a < l) (hbd : ¬ b < d) : Calls Try.prog 39 #[.pointer (some ⟨g, 0, none⟩)] w (Post w g (.tuple #[.bool false, .int .i64 6]) a b l d) := by
  obtain ⟨⟨a0, a1⟩, ⟨b0, b1⟩, ⟨l0, l1⟩, d0, d1⟩ := s
  have cl : w.cell? ⟨g, 0, none⟩ = some (.int .i64 l) := Blk.cell h 0
  have cd : w.cell? ⟨g, 1, none⟩ = some (.int .i64 d) := Blk.cell h 1
  have ca : w.cell? ⟨g, 2, none⟩ = some (.int .i64 a) := Blk.cell h 2
  have cb : w.cell? ⟨g, 3, none⟩ = some (.int .i64 b) := Blk.cell h 3
  have f0 := Blk.free h 0
  have f2 := Blk.free h 2
  have f3 := Blk.free h 3
  have H := Lib.hid h
  clear h
  go_enter Try.func39, Try.ntmps39
  go_wp2
  go_quiet (fail)
  go_wp2
  go_quiet (fail)
  go_wp2
  go_ret2
  exact ⟨rfl, (H.out.drewN _).drewN _, grown_drewN (grown_drewN (grown_refl _ _) _) _⟩

set_option maxHeartbeats 1000000 in
theorem quit_none (g : Nat) (a b l d : Int) (w : World) (h : Rb w g a b l d) (s : St a b l d) (hb : b = 0) : Calls Try.prog 42 #[.pointer (some ⟨g, 0, none⟩)] w (Post w g (.int .i64 7) a b l d) := by
  obtain ⟨⟨a0, a1⟩, ⟨b0, b1⟩, ⟨l0, l1⟩, d0, d1⟩ := s
  have cl : w.cell? ⟨g, 0, none⟩ = some (.int .i64 l) := Blk.cell h 0
  have cd : w.cell? ⟨g, 1, none⟩ = some (.int .i64 d) := Blk.cell h 1
  have ca : w.cell? ⟨g, 2, none⟩ = some (.int .i64 a) := Blk.cell h 2
  have cb : w.cell? ⟨g, 3, none⟩ = some (.int .i64 b) := Blk.cell h 3
  have f0 := Blk.free h 0
  have f2 := Blk.free h 2
  have f3 := Blk.free h 3
  have H := Lib.hid h
  clear h
  have hb' : (b == 0) = true := beq_iff_eq.2 hb
  clear hb
  go_enter Try.func42, Try.ntmps42
  go_wp2
  go_ret
  exact ⟨rfl, H.out, grown_refl _ _⟩

set_option maxHeartbeats 1000000 in
theorem quit_some (g : Nat) (a b l d : Int) (w : World) (h : Rb w g a b l d) (s : St a b l d) (hb : ¬ b = 0) : Calls Try.prog 42 #[.pointer (some ⟨g, 0, none⟩)] w (Post w g (.int .i64 0) a (b - 1) l d) := by
  obtain ⟨⟨a0, a1⟩, ⟨b0, b1⟩, ⟨l0, l1⟩, d0, d1⟩ := s
  have cl : w.cell? ⟨g, 0, none⟩ = some (.int .i64 l) := Blk.cell h 0
  have cd : w.cell? ⟨g, 1, none⟩ = some (.int .i64 d) := Blk.cell h 1
  have ca : w.cell? ⟨g, 2, none⟩ = some (.int .i64 a) := Blk.cell h 2
  have cb : w.cell? ⟨g, 3, none⟩ = some (.int .i64 b) := Blk.cell h 3
  have f0 := Blk.free h 0
  have f2 := Blk.free h 2
  have f3 := Blk.free h 3
  have H := Lib.hid h
  clear h
  have hb' : (b == 0) = false := beq_eq_false_iff_ne.2 hb
  clear hb
  go_enter Try.func42, Try.ntmps42
  go_wp2
  go_ret
  exact ⟨rfl, H.out.setb _, grown_set (grown_refl _ _) 3 _⟩

set_option maxHeartbeats 1000000 in
theorem leave_none (g : Nat) (a b l d : Int) (w : World) (h : Rb w g a b l d) (s : St a b l d) (ha : a = 0) : Calls Try.prog 41 #[.pointer (some ⟨g, 0, none⟩)] w (Post w g (.tuple #[.bool false, .int .i64 7]) a b l d) := by
  obtain ⟨⟨a0, a1⟩, ⟨b0, b1⟩, ⟨l0, l1⟩, d0, d1⟩ := s
  have cl : w.cell? ⟨g, 0, none⟩ = some (.int .i64 l) := Blk.cell h 0
  have cd : w.cell? ⟨g, 1, none⟩ = some (.int .i64 d) := Blk.cell h 1
  have ca : w.cell? ⟨g, 2, none⟩ = some (.int .i64 a) := Blk.cell h 2
  have cb : w.cell? ⟨g, 3, none⟩ = some (.int .i64 b) := Blk.cell h 3
  have f0 := Blk.free h 0
  have f2 := Blk.free h 2
  have f3 := Blk.free h 3
  have H := Lib.hid h
  clear h
  have ha' : (a == 0) = true := beq_iff_eq.2 ha
  clear ha
  go_enter Try.func41, Try.ntmps41
  go_wp2
  go_ret2
  exact ⟨rfl, H.out, grown_refl _ _⟩

set_option maxHeartbeats 1000000 in
theorem leave_one (g : Nat) (a b l d : Int) (w : World) (h : Rb w g a b l d) (s : St a b l d) (ha : ¬ a = 0) (hb : 0 < b) (hl : a - 1 < l) : Calls Try.prog 41 #[.pointer (some ⟨g, 0, none⟩)] w (Post w g (.tuple #[.bool true, .int .i64 0]) (a - 1 + 1) (b - 1) l d) := by
  obtain ⟨⟨a0, a1⟩, ⟨b0, b1⟩, ⟨l0, l1⟩, d0, d1⟩ := s
  have cl : w.cell? ⟨g, 0, none⟩ = some (.int .i64 l) := Blk.cell h 0
  have cd : w.cell? ⟨g, 1, none⟩ = some (.int .i64 d) := Blk.cell h 1
  have ca : w.cell? ⟨g, 2, none⟩ = some (.int .i64 a) := Blk.cell h 2
  have cb : w.cell? ⟨g, 3, none⟩ = some (.int .i64 b) := Blk.cell h 3
  have f0 := Blk.free h 0
  have f2 := Blk.free h 2
  have f3 := Blk.free h 3
  have H := Lib.hid h
  clear h
  have ha' : (a == 0) = false := beq_eq_false_iff_ne.2 ha
  have k1 : decide (0 < b) = true := decide_eq_true hb
  have k2 : decide (a - 1 < l) = true := decide_eq_true hl
  clear ha
  go_enter Try.func41, Try.ntmps41
  go_wp2
  go_quiet (fail)
  go_wp2
  go_ret2
  refine ⟨rfl, ?_, ?_⟩
  · rw [show a - 1 + 1 = a from by omega]
    exact (((H.out.seta _).drewN _).setb _).seta _
  · exact grown_set (grown_set (grown_drewN (grown_set (grown_refl _ _) 2 _) _) 3 _) 2 _

set_option maxHeartbeats 1000000 in
theorem leave_no (g : Nat) (a b l d : Int) (w : World) (h : Rb w g a b l d) (s : St a b l d) (ha : ¬ a = 0) (hx : ¬ (0 < b ∧ a - 1 < l)) : Calls Try.prog 41 #[.pointer (some ⟨g, 0, none⟩)] w (Post w g (.tuple #[.bool false, .int .i64 0]) (a - 1) b l d) := by
  obtain ⟨⟨a0, a1⟩, ⟨b0, b1⟩, ⟨l0, l1⟩, d0, d1⟩ := s
  have cl : w.cell? ⟨g, 0, none⟩ = some (.int .i64 l) := Blk.cell h 0
  have cd : w.cell? ⟨g, 1, none⟩ = some (.int .i64 d) := Blk.cell h 1
  have ca : w.cell? ⟨g, 2, none⟩ = some (.int .i64 a) := Blk.cell h 2
  have cb : w.cell? ⟨g, 3, none⟩ = some (.int .i64 b) := Blk.cell h 3
  have f0 := Blk.free h 0
  have f2 := Blk.free h 2
  have f3 := Blk.free h 3
  have H := Lib.hid h
  clear h
  have ha' : (a == 0) = false := beq_eq_false_iff_ne.2 ha
  clear ha
  by_cases hb : 0 < b
  · have k1 : decide (0 < b) = true := decide_eq_true hb
    have k2 : decide (a - 1 < l) = false := decide_eq_false (by omega)
    go_enter Try.func41, Try.ntmps41
    go_wp2
    go_quiet (fail)
    go_wp2
    go_ret2
    exact ⟨rfl, (H.out.seta _).drewN _, grown_drewN (grown_set (grown_refl _ _) 2 _) _⟩
  · have k1 : decide (0 < b) = false := decide_eq_false hb
    go_enter Try.func41, Try.ntmps41
    go_wp2
    go_quiet (fail)
    go_wp2
    go_ret2
    exact ⟨rfl, (H.out.seta _).drewN _, grown_drewN (grown_set (grown_refl _ _) 2 _) _⟩

set_option maxHeartbeats 1000000 in
theorem limit_no (g : Nat) (a b l d n : Int) (w : World) (h : Rb w g a b l d) (hn : n < 0 ∨ 1000 < n) : Calls Try.prog 43 #[.pointer (some ⟨g, 0, none⟩), .int .i64 n] w (Post w g (.tuple #[.int .i64 0, .int .i64 1]) a b l d) := by
  have H := Lib.hid h
  clear h
  have h' : n < 0 ∨ (0 ≤ n ∧ 1000 < n) := by omega
  clear hn
  rcases h' with h1 | ⟨h1, h2⟩
  all_goals
    go_enter Try.func43, Try.ntmps43
    go_wp2
    go_ret2
    exact ⟨rfl, H.out, grown_refl _ _⟩

set_option maxHeartbeats 1000000 in
theorem limit_yes (g : Nat) (a b l d n : Int) (w : World) (h : Rb w g a b l d) (s : St a b l d) (hn0 : 0 ≤ n) (hn1 : n ≤ 1000) : Calls Try.prog 43 #[.pointer (some ⟨g, 0, none⟩), .int .i64 n] w (Post w g (.tuple #[.int .i64 (inN a b n), .int .i64 0]) (a + inN a b n) (b - inN a b n) n d) := by
  obtain ⟨⟨a0, a1⟩, ⟨b0, b1⟩, ⟨l0, l1⟩, d0, d1⟩ := s
  have cl : w.cell? ⟨g, 0, none⟩ = some (.int .i64 l) := Blk.cell h 0
  have cd : w.cell? ⟨g, 1, none⟩ = some (.int .i64 d) := Blk.cell h 1
  have ca : w.cell? ⟨g, 2, none⟩ = some (.int .i64 a) := Blk.cell h 2
  have cb : w.cell? ⟨g, 3, none⟩ = some (.int .i64 b) := Blk.cell h 3
  have f0 := Blk.free h 0
  have f2 := Blk.free h 2
  have f3 := Blk.free h 3
  have H := Lib.hid h
  clear h
  have k1 : decide (n < 0) = false := decide_eq_false (by omega)
  have k2 : decide (1000 < n) = false := decide_eq_false (by omega)
  have hq : inN a b n = min (max (n - a) 0) b := rfl
  generalize inN a b n = q at *
  have ways : (n - a < 0 ∧ q = 0) ∨ (0 ≤ n - a ∧ b < n - a ∧ q = b) ∨ (0 ≤ n - a ∧ n - a ≤ b ∧ n - a = q) := by omega
  clear hq
  rcases ways with ⟨c1, rfl⟩ | ⟨c1, c2, rfl⟩ | ⟨c1, c2, c3⟩
  · rw [Int.add_zero, Int.sub_zero]
    go_enter Try.func43, Try.ntmps43
    go_wp2
    go_quiet (fail)
    go_wp2
    go_region
    go_wp2
    go_ret2
    exact ⟨rfl, (((H.out.setl _).drewN _).seta _).setb _, grown_set (grown_set (grown_drewN (grown_set (grown_refl _ _) 0 _) _) 2 _) 3 _⟩
  · rw [Int.sub_self]
    go_enter Try.func43, Try.ntmps43
    go_wp2
    go_quiet (fail)
    go_wp2
    go_region
    go_wp2
    go_ret2
    exact ⟨rfl, (((H.out.setl _).drewN _).seta _).setb _, grown_set (grown_set (grown_drewN (grown_set (grown_refl _ _) 0 _) _) 2 _) 3 _⟩
  · rw [c3] at c1 c2
    go_enter Try.func43, Try.ntmps43
    go_wp2
    go_quiet (fail)
    go_wp2
    go_region
    go_wp2
    go_ret2
    exact ⟨rfl, (((H.out.setl _).drewN _).seta _).setb _, grown_set (grown_set (grown_drewN (grown_set (grown_refl _ _) 0 _) _) 2 _) 3 _⟩

end Go.Proofs.Ytnlfocmmnjgmpaa.R
