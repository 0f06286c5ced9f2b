/- PodSteady. -/
import Derived.Test.YtnlfocmmnjgmpaaD4
import Derived.Test.YtnlfocmmnjgmpaaSu
namespace Go.Proofs.Ytnlfocmmnjgmpaa.Ps
open Go.RowKit Go.Proofs.Ytnlfocmmnjgmpaa.Fl Go.Proofs.Ytnlfocmmnjgmpaa.L Go.Proofs.Ytnlfocmmnjgmpaa.B Go.Proofs.Ytnlfocmmnjgmpaa.B7 Go.Proofs.Ytnlfocmmnjgmpaa.In1 Go.Proofs.Ytnlfocmmnjgmpaa.D Go.Proofs.Ytnlfocmmnjgmpaa.D2 Go.Proofs.Ytnlfocmmnjgmpaa.D4

theorem stat_flat (p g : Nat) (id made t n l d now : Int) (w : World) (h : Has w p g id made t t 0 n l d) (hl : 0 ≤ l ∧ l ≤ 500 ∧ 0 ≤ d ∧ d ≤ 500) (hn : n ≤ l + d) (hi : 0 ≤ id ∧ id ≤ 9223372036854775807) (hm : 0 ≤ made ∧ made ≤ t) (ht : t ≤ now) (h2 : now ≤ 1099511627776) :
    Calls Try.prog 51 #[.pointer (some ⟨p, 0, none⟩), .int .i64 now] w fun e w' => e = .returned (.agg #[.int .i64 id, .int .i64 (now - made), .int .i64 (1000 * n)]) ∧ Has w' p g id made now now 0 n l d ∧ Two w w' p g := by
  by_cases hlt : t < now
  · refine (stat_sum p g id made t t 0 n l d now w h hl hn hi hm (by omega) (by omega) ht h2 hlt (1000 * n) ?_)
    rw [Int.zero_add, Int.mul_assoc, Int.mul_ediv_cancel_left _ (by omega)]; omega
  · obtain rfl : t = now := by omega
    have h3 := stat_sum0 p g id made t t 0 n l d t w h hl hn hi hm (by omega) (by omega) ht h2 hlt
    rw [Int.mul_comm n 1000] at h3
    exact h3

set_option maxRecDepth 100000 in
set_option maxHeartbeats 8000000 in
theorem walk (a0 a1 : Int) (a2 : Option Addr) (len0 cap0 : Nat) (z0 : List Int) (w : World) (_m0 : len0 ≤ 9223372036854775807) (w0 : Su.Elems w a2 len0 z0) :
    Calls Try.prog 16 #[.int .i64 a0, .int .i64 a1, .slice a2 len0 cap0] w fun e w' => e = .returned (.bool true) ∧ Below w.heap.size w w' := by
  obtain ⟨k, hk0, hk1, hK⟩ := urem a0 21 (by omega)
  obtain ⟨l0, hl0, hl1, hL⟩ := urem a1 20 (by omega)
  have W0 := Lib.hid w0
  clear w0
  go_enter Try.func16, Try.ntmps16
  go_wp2_with fail
  generalize hl : 1 + l0 = l at *
  have l1 : 1 ≤ l := by omega
  have l2 : l ≤ 20 := by omega
  clear hl hl0 hl1 hK hL
  refine (new_yes 0 l 20 0 _ (by unfold MayP May; omega)).mono ?_
  rintro e w1 ⟨rfl, h1, hb1, hs1⟩
  have H1 := has_new h1 (by omega)
  obtain ⟨B, hB⟩ : ∃ n, n = w.heap.size := ⟨_, rfl⟩
  have BB := Lib.hid hB
  simp only [← hB] at H1 hb1 hs1 ⊢
  have H1' := Lib.hid H1
  have HB' := Lib.hid hb1
  have S1 : Hid (B + 2 ≤ w1.heap.size) := by show _ ≤ _; omega
  clear h1 hb1 hs1 H1 hB
  go_wp2_with fail
  go_loopw [9] (fun i wr => ∃ j : Int, 0 ≤ j ∧ j ≤ k ∧ i = .int .i64 j ∧ Has wr (B + 1) B 0 0 0 0 0 j l 20 ∧ Below B w wr ∧ B + 2 ≤ wr.heap.size) (fun i _ => (k - intOf i).toNat)
  case atStart => exact ⟨0, by omega, by omega, rfl, H1'.out, HB'.out, S1.out⟩
  case round =>
    obtain ⟨j, j0, j1, rfl, hP, hW, hS⟩ := hrel
    clear H1' HB' S1
    by_cases hlt : j < k
    · have k1 : decide (j < k) = true := decide_eq_true hlt
      go_wp2_with fail
      refine (enter_sum (B + 1) B 0 0 0 0 0 j l 20 0 _ hP (by omega) (by omega) (by omega) (by omega) (by omega) (by omega) (by omega) (by omega)).mono ?_
      rintro e wa ⟨r1, rfl, hP1, t1⟩
      have hW1 := Two.below hW t1 (by omega) (by omega) (by omega)
      have hS1 : B + 2 ≤ wa.heap.size := by have := t1.size; omega
      clear hP hW hS t1
      go_wp2_with fail
      go_roundw
      case rel => exact ⟨j + 1, by omega, by omega, rfl, (by simpa using hP1), hW1, hS1⟩
      case measure => simp [intOf]; omega
    · obtain rfl : k = j := by omega
      have HP := Lib.hid hP
      have HW := Lib.hid hW
      have HS : Hid (B + 2 ≤ wr.heap.size) := hS
      clear hP hW hS
      go_wp2_with fail
      go_loopw [12, 13] (fun a b wr => ∃ (t : Int) (i : Nat), 0 ≤ t ∧ t ≤ 50 * i ∧ a = .int .i64 t ∧ b = .int .i64 (i : Int) ∧ i ≤ 30 ∧ i ≤ len0 ∧ Has wr (B + 1) B 0 0 t t 0 k l 20 ∧ Below B w wr ∧ B + 2 ≤ wr.heap.size) (fun _ b _ => len0 - (intOf b).toNat)
      case atStart => exact ⟨0, 0, by omega, by omega, rfl, rfl, by omega, by omega, HP.out, HW.out, HS.out⟩
      case round =>
        obtain ⟨t, i, t0, t1, rfl, rfl, i0, i1, hP, hW, hS⟩ := hrel
        clear HP HW HS
        have i2 : (0 : Int) ≤ (i : Int) := Int.natCast_nonneg _
        by_cases hn : i < len0
        · by_cases h30 : i < 30
          · obtain ⟨b, off, rfl, hc⟩ := W0.out _ hn
            have hc' := cell_later (BB.out ▸ hW : Below w.heap.size w wr) hc
            clear hc
            generalize z0.getD i 0 = q at hc'
            obtain ⟨x, x0, x1, hX⟩ := urem q 50 (by omega)
            have k1 : decide ((i : Int) < (len0 : Int)) = true := decide_eq_true (by omega)
            have k2 : decide ((i : Int) < 30) = true := decide_eq_true (by omega)
            go_wp2_with fail
            refine (stat_flat (B + 1) B 0 0 t k l 20 (t + x) _ hP (by omega) (by omega) (by omega) (by omega) (by omega) (by omega)).mono ?_
            rintro e wa ⟨rfl, hPa, ta⟩
            have hWa := Two.below hW ta (by omega) (by omega) (by omega)
            have hSa : B + 2 ≤ wa.heap.size := by have := ta.size; omega
            clear hP hW hS ta
            rw [Int.sub_zero]
            have PP := Lib.hid (has_alloc hPa (.cells #[.int .i64 0, .int .i64 (t + x), .int .i64 (1000 * k)] 61))
            have WW := Lib.hid (hWa.alloc (by omega) (.cells #[.int .i64 0, .int .i64 (t + x), .int .i64 (1000 * k)] 61))
            have SS : Hid (B + 2 ≤ (wa.alloc (.cells #[.int .i64 0, .int .i64 (t + x), .int .i64 (1000 * k)] 61)).heap.size) := by show _ ≤ _; simp; omega
            have f1 : IntKind.i64.wrap (1000 * k) = 1000 * k := wrap_in (by omega) (by omega)
            clear hPa hWa hSa hc'
            go_wp2
            go_roundw
            case rel => exact ⟨t + x, i + 1, by omega, by omega, rfl, by simp, by omega, by omega, PP.out, WW.out, SS.out⟩
            case measure => simp [intOf]; omega
          · have k1 : decide ((i : Int) < (len0 : Int)) = true := decide_eq_true (by omega)
            have k2 : decide ((i : Int) < 30) = false := decide_eq_false (by omega)
            have HP := Lib.hid hP
            have HW := Lib.hid hW
            have HS : Hid (B ≤ wr.heap.size) := by show _ ≤ _; omega
            clear hP hW hS
            go_wp2_with (go_at_call 52; refine (D8.told_any _).mono ?_; rintro e wt ⟨rfl, hbt⟩)
            go_ret
            exact ⟨rfl, BB.out ▸ (HW.out.trans (hbt.mono HS.out))⟩
        · have k1 : decide ((i : Int) < (len0 : Int)) = false := decide_eq_false (by omega)
          have HP := Lib.hid hP
          have HW := Lib.hid hW
          have HS : Hid (B ≤ wr.heap.size) := by show _ ≤ _; omega
          clear hP hW hS
          go_wp2_with (go_at_call 52; refine (D8.told_any _).mono ?_; rintro e wt ⟨rfl, hbt⟩)
          go_ret
          exact ⟨rfl, BB.out ▸ (HW.out.trans (hbt.mono HS.out))⟩
end Go.Proofs.Ytnlfocmmnjgmpaa.Ps
