/- BreakerHolds. -/
import Derived.Test.YtnlfocmmnjgmpaaB7
import Derived.Deep.DeepCutAuto
import Derived.Deep.CutBlock
namespace Go.Proofs.Ytnlfocmmnjgmpaa.H
open Go.RowKit Go.Proofs.Ytnlfocmmnjgmpaa.Fl Go.Proofs.Ytnlfocmmnjgmpaa.L Go.Proofs.Ytnlfocmmnjgmpaa.B Go.Proofs.Ytnlfocmmnjgmpaa.B7

/-- The elements of a slice of steps, each of two numbers. -/
def Ops (w : World) (a : Option Addr) (len : Nat) (K N : Nat → Int) : Prop := ∀ j, j < len → ∃ b off, a = some ⟨b, off, none⟩ ∧ w.cell? ⟨b, off + j * 2, none⟩ = some (.int .i64 (K j)) ∧ w.cell? ⟨b, off + j * 2 + 1, none⟩ = some (.int .i64 (N j))

theorem brBelow {w w' : World} {g : Nat} {a b l d : Int} (h : Br w g a b l d) {B : Nat} (hb : Below B w w') (hk : g < B) : Br w' g a b l d := Blk.below h hb hk
theorem brlt {w : World} {g : Nat} {a b l d : Int} (h : Br w g a b l d) : g < w.heap.size := Blk.lt h

theorem toint (n : Int) (w : World) (h0 : 0 ≤ n) (h1 : n ≤ 1000) : (convert 36 3 (.float .f64 (fl n))).run Try.prog w = .ok (.int .i64 n) w := by
  have ht := toInt_rep (rep_fl h0 (by omega))
  rw [Int.toNat_of_nonneg h0] at ht
  exact run_convert_float_int w 36 3 .f64 .i64 (fl n) n (by kernel_rfl) (by kernel_rfl) (toIntVal_of ht (by omega) (by omega))

set_option maxRecDepth 100000 in
set_option maxHeartbeats 8000000 in
theorem walk (a0 a1 : Int) (a2 : Option Addr) (len2 cap2 : Nat) (K N : Nat → Int) (w : World) (_m2 : len2 ≤ 9223372036854775807) (w2 : Ops w a2 len2 K N) :
    Calls Try.prog 11 #[.int .i64 a0, .int .i64 a1, .slice a2 len2 cap2] w fun e w' => e = .returned (.bool true) ∧ Below w.heap.size w w' := by
  have W2 := Lib.hid w2
  clear w2
  obtain ⟨n0, hn0, hn1, hN⟩ := umod a0 21 (by omega) (by omega)
  obtain ⟨d, hd0, hd1, hD⟩ := umod a1 21 (by omega) (by omega)
  go_enter Try.func11, Try.ntmps11
  go_wp2_with fail
  simp only [hN, hD]
  clear hN hD
  refine (new_yes n0 d _ (by unfold May; omega)).mono ?_
  rintro e w0 ⟨rfl, h0, hw⟩
  have hb0 : Below w.heap.size w w0 := by rw [hw]; exact (Below.refl _ _).alloc (Nat.le_refl _) _
  have hs0 : w.heap.size ≤ w0.heap.size := by rw [hw]; simp
  clear hw
  go_wp2_with fail
  go_loopw [7, 10, 11, 12] (fun n q was i wr => ∃ (j : Nat) (a b N S : Int), j ≤ len2 ∧ i = .int .i64 j ∧ was = .int .i64 a ∧ n = .int .i64 N ∧ q = .int .i64 S ∧ Hid (S = a + b ∧ 0 ≤ a ∧ a ≤ 20 ∧ 0 ≤ b ∧ b ≤ d ∧ 0 ≤ N ∧ N ≤ 20 ∧ (b = 0 ∨ N ≤ a)) ∧ Br wr w.heap.size a b N d ∧ Below w.heap.size w wr ∧ w.heap.size ≤ wr.heap.size) (fun _ _ _ i _ => len2 - (intOf i).toNat)
  case atStart => exact ⟨0, 0, 0, n0, 0, Nat.zero_le _, rfl, rfl, rfl, rfl, (by show _ ∧ _; omega), h0, hb0, hs0⟩
  case round =>
    obtain ⟨j, a, b, N', S, hj, rfl, rfl, rfl, rfl, hI, hB, hW, hS⟩ := hrel
    clear h0 hb0 hs0
    by_cases hx : j < len2 ∧ j < 150
    · obtain ⟨hlt, h150⟩ := hx
      obtain ⟨ab, off, rfl, c0, c1⟩ := W2.out j hlt
      have hc0 := cell_later hW c0
      have hc1 := cell_later hW c1
      clear c0 c1
      generalize K j = kk at hc0
      generalize N j = nn at hc1
      have k7 := and_mask kk 7 (by omega) (by omega)
      obtain ⟨kd, kd0, kd1, hKd⟩ := k7
      obtain ⟨ab1, ab2, ab3, ab4, ab5, ab6⟩ : 0 ≤ a ∧ a ≤ 20 ∧ 0 ≤ b ∧ b ≤ d ∧ 0 ≤ N' ∧ N' ≤ 20 := by have := hI.out; omega
      obtain ⟨s0, s1⟩ : 0 ≤ S ∧ S ≤ 40 := by have := hI.out; omega
      have sz : S ≠ 0 ∨ (a = 0 ∧ b = 0) := by have := hI.out; omega
      go_upto_block 2 with fail
      go_cut [7, 10] (fun n q wx => ∃ (A B M S' : Int), n = .int .i64 M ∧ q = .int .i64 S' ∧ Hid (S' = A + B ∧ 0 ≤ A ∧ A ≤ 20 ∧ 0 ≤ B ∧ B ≤ d ∧ 0 ≤ M ∧ M ≤ 20 ∧ (B = 0 ∨ M ≤ A) ∧ (M < A → A ≤ a)) ∧ Br wx w.heap.size A B M d ∧ Below w.heap.size w wx ∧ w.heap.size ≤ wx.heap.size)
      case first =>
        by_cases c3 : kd < 3
        · by_cases hal : a < N'
          · go_wp2_with (go_at_call 33; refine (enter_in _ a b N' d _ hB (st_lit (by omega)) hal).mono ?_; rintro e w1 ⟨rfl, h1, g1⟩)
            go_meet
            exact ⟨a + 1, b, N', _, rfl, rfl, (by have := hI.out; show _ ∧ _; omega), h1, below_of_grown hW g1 (Nat.le_refl _) hS, by have := g1.size; omega⟩
          · by_cases hbd : b < d
            · go_wp2_with (go_at_call 33; refine (enter_wait _ a b N' d _ hB (st_lit (by omega)) hal hbd).mono ?_; rintro e w1 ⟨rfl, h1, g1⟩)
              go_meet
              exact ⟨a, b + 1, N', _, rfl, rfl, (by have := hI.out; show _ ∧ _; omega), h1, below_of_grown hW g1 (Nat.le_refl _) hS, by have := g1.size; omega⟩
            · go_wp2_with (go_at_call 33; refine (enter_full _ a b N' d _ hB (st_lit (by omega)) hal hbd).mono ?_; rintro e w1 ⟨rfl, h1, g1⟩)
              go_meet
              exact ⟨a, b, N', _, rfl, rfl, (by have := hI.out; show _ ∧ _; omega), h1, below_of_grown hW g1 (Nat.le_refl _) hS, by have := g1.size; omega⟩
        · by_cases c6 : kd < 6
          · by_cases ha : a = 0
            · have HA := Lib.hid ha
              clear ha
              go_wp2_with (go_at_call 40; refine (leave_none _ a b N' d _ hB (st_lit (by omega)) HA.out).mono ?_; rintro e w1 ⟨rfl, h1, g1⟩)
              go_meet
              exact ⟨a, b, N', _, rfl, rfl, (by have := hI.out; show _ ∧ _; have := HA.out; omega), h1, below_of_grown hW g1 (Nat.le_refl _) hS, by have := g1.size; omega⟩
            · have L0 := leave_some _ a b N' d _ hB (st_lit (by omega)) ha
              have hq : Hid (inN (a - 1) b N' = min (max (N' - (a - 1)) 0) b) := rfl
              generalize inN (a - 1) b N' = q at *
              go_wp2_with (go_at_call 40; refine L0.mono ?_; rintro e w1 ⟨rfl, h1, g1⟩)
              go_meet
              exact ⟨a - 1 + q, b - q, N', _, rfl, rfl, (by have := hI.out; show _ ∧ _; have := hq.out; omega), h1, below_of_grown hW g1 (Nat.le_refl _) hS, by have := g1.size; omega⟩
          · by_cases ce : kd = 6
            · obtain rfl := ce
              by_cases hb : b = 0
              · have HA := Lib.hid hb
                clear hb
                go_wp2_with (go_at_call 34; refine (quit_none _ a b N' d _ hB (st_lit (by omega)) HA.out).mono ?_; rintro e w1 ⟨rfl, h1, g1⟩)
                go_meet
                exact ⟨a, b, N', _, rfl, rfl, (by have := hI.out; show _ ∧ _; have := HA.out; omega), h1, below_of_grown hW g1 (Nat.le_refl _) hS, by have := g1.size; omega⟩
              · go_wp2_with (go_at_call 34; refine (quit_some _ a b N' d _ hB (st_lit (by omega)) hb).mono ?_; rintro e w1 ⟨rfl, h1, g1⟩)
                go_meet
                exact ⟨a, b - 1, N', _, rfl, rfl, (by have := hI.out; show _ ∧ _; omega), h1, below_of_grown hW g1 (Nat.le_refl _) hS, by have := g1.size; omega⟩
            · have k6 : (kd == 6) = false := beq_eq_false_iff_ne.2 ce
              obtain ⟨M, m0, m1, hM⟩ := umod nn 21 (by omega) (by omega)
              have L0 := limit_yes w.heap.size a b N' d M _ hB (st_lit (by omega)) (by omega) (by omega)
              have hq : Hid (inN a b M = min (max (M - a) 0) b) := rfl
              generalize inN a b M = q at *
              go_wp2_with (go_at_call 35; refine L0.mono ?_; rintro e w1 ⟨rfl, h1, g1⟩)
              go_meet
              exact ⟨a + q, b - q, M, _, rfl, rfl, (by have := hI.out; show _ ∧ _; have := hq.out; omega), h1, below_of_grown hW g1 (Nat.le_refl _) hS, by have := g1.size; omega⟩
      case rest =>
        obtain ⟨A, B, M, S', rfl, rfl, hJ, h1, hW1, hS1⟩ := hcut
        clear hB hW hS hI ab1 ab2 ab3 ab4 ab5 ab6 s0 s1 sz hc0 hc1 kd0 kd1 hKd W2
        obtain ⟨e1, e2, e3, e4, e5, e6⟩ : 0 ≤ A ∧ A ≤ 20 ∧ 0 ≤ B ∧ B ≤ d ∧ 0 ≤ M ∧ M ≤ 20 := by have := hJ.out; omega
        have t1 : ∀ w : World, (convert 36 3 (.float .f64 (fl A))).run Try.prog w = .ok (.int .i64 A) w := fun w => toint A w (by omega) (by omega)
        have t2 : ∀ w : World, (convert 36 3 (.float .f64 (fl B))).run Try.prog w = .ok (.int .i64 B) w := fun w => toint B w (by omega) (by omega)
        have f1 : (A + B != S') = false := by rw [bne_eq_false_iff_eq]; have := hJ.out; omega
        have f2 : decide (d < B) = false := decide_eq_false (by omega)
        have F0 := free_any w.heap.size A B M d _ h1 (st_lit (by omega))
        by_cases x1 : M < A
        · by_cases x2 : 0 < B
          · have g1 : decide (M < A) = true := decide_eq_true (by omega)
            have g2 : decide (a < A) = false := decide_eq_false (by have := hJ.out; omega)
            have g3 : decide (0 < B) = true := decide_eq_true (by omega)
            have g4 : decide (A < M) = false := decide_eq_false (by have := hJ.out; omega)
            rw [show max (M - A) 0 = 0 from by omega] at F0
            have F := Lib.hid F0
            clear F0
            go_wp2_with (first | (go_at_call 44; refine (load_any _ _ _ _ _ _ h1).mono ?_; rintro e w' ⟨rfl, rfl⟩) | (go_at_call 37; refine F.out.mono ?_; rintro e w' ⟨rfl, nq, rfl⟩))
            go_roundw
            case rel => exact ⟨j + 1, A, B, M, S', by omega, by go_num, rfl, rfl, rfl, (by have := hJ.out; show _ ∧ _; omega), h1.drewN _, below_drewN hW1 _, hS1⟩
            case measure => simp [intOf]; omega
          · have g1 : decide (M < A) = true := decide_eq_true (by omega)
            have g2 : decide (a < A) = false := decide_eq_false (by have := hJ.out; omega)
            have g3 : decide (0 < B) = false := decide_eq_false (by omega)
            rw [show max (M - A) 0 = 0 from by omega] at F0
            have F := Lib.hid F0
            clear F0
            go_wp2_with (first | (go_at_call 44; refine (load_any _ _ _ _ _ _ h1).mono ?_; rintro e w' ⟨rfl, rfl⟩) | (go_at_call 37; refine F.out.mono ?_; rintro e w' ⟨rfl, nq, rfl⟩))
            go_roundw
            case rel => exact ⟨j + 1, A, B, M, S', by omega, by go_num, rfl, rfl, rfl, (by have := hJ.out; show _ ∧ _; omega), h1.drewN _, below_drewN hW1 _, hS1⟩
            case measure => simp [intOf]; omega
        · by_cases x3 : A < M
          · have x2 : ¬ 0 < B := by have := hJ.out; omega
            have g1 : decide (M < A) = false := decide_eq_false (by omega)
            have g3 : decide (0 < B) = false := decide_eq_false (by omega)
            rw [show max (M - A) 0 = M - A from by omega] at F0
            have F := Lib.hid F0
            clear F0
            go_wp2_with (first | (go_at_call 44; refine (load_any _ _ _ _ _ _ h1).mono ?_; rintro e w' ⟨rfl, rfl⟩) | (go_at_call 37; refine F.out.mono ?_; rintro e w' ⟨rfl, nq, rfl⟩))
            go_roundw
            case rel => exact ⟨j + 1, A, B, M, S', by omega, by go_num, rfl, rfl, rfl, (by have := hJ.out; show _ ∧ _; omega), h1.drewN _, below_drewN hW1 _, hS1⟩
            case measure => simp [intOf]; omega
          · by_cases x2 : 0 < B
            · have g1 : decide (M < A) = false := decide_eq_false (by omega)
              have g3 : decide (0 < B) = true := decide_eq_true (by omega)
              have g4 : decide (A < M) = false := decide_eq_false (by have := hJ.out; omega)
              rw [show max (M - A) 0 = 0 from by omega] at F0
              have F := Lib.hid F0
              clear F0
              go_wp2_with (first | (go_at_call 44; refine (load_any _ _ _ _ _ _ h1).mono ?_; rintro e w' ⟨rfl, rfl⟩) | (go_at_call 37; refine F.out.mono ?_; rintro e w' ⟨rfl, nq, rfl⟩))
              go_roundw
              case rel => exact ⟨j + 1, A, B, M, S', by omega, by go_num, rfl, rfl, rfl, (by have := hJ.out; show _ ∧ _; omega), h1.drewN _, below_drewN hW1 _, hS1⟩
              case measure => simp [intOf]; omega
            · have g1 : decide (M < A) = false := decide_eq_false (by omega)
              have g3 : decide (0 < B) = false := decide_eq_false (by omega)
              rw [show max (M - A) 0 = 0 from by omega] at F0
              have F := Lib.hid F0
              clear F0
              go_wp2_with (first | (go_at_call 44; refine (load_any _ _ _ _ _ _ h1).mono ?_; rintro e w' ⟨rfl, rfl⟩) | (go_at_call 37; refine F.out.mono ?_; rintro e w' ⟨rfl, nq, rfl⟩))
              go_roundw
              case rel => exact ⟨j + 1, A, B, M, S', by omega, by go_num, rfl, rfl, rfl, (by have := hJ.out; show _ ∧ _; omega), h1.drewN _, below_drewN hW1 _, hS1⟩
              case measure => simp [intOf]; omega
    · by_cases hn : j < len2
      · have h4 : decide ((j : Int) < 150) = false := decide_eq_false (by omega)
        go_wp2_with (go_at_call 36; refine (B7.told_any _).mono ?_; rintro e wt ⟨rfl, hbt⟩)
        go_ret
        exact ⟨rfl, hW.trans (hbt.mono hS)⟩
      · go_wp2_with (go_at_call 36; refine (B7.told_any _).mono ?_; rintro e wt ⟨rfl, hbt⟩)
        go_ret
        exact ⟨rfl, hW.trans (hbt.mono hS)⟩
end Go.Proofs.Ytnlfocmmnjgmpaa.H
