/- BreakerPlays. -/
import Derived.Test.YtnlfocmmnjgmpaaB7
import Derived.Test.YtnlfocmmnjgmpaaR
import Derived.Deep.DeepCutAuto
import Derived.Deep.CutBlock
namespace Go.Proofs.Ytnlfocmmnjgmpaa.Bp
open Go.RowKit Go.Proofs.Ytnlfocmmnjgmpaa.Fl Go.Proofs.Ytnlfocmmnjgmpaa.L Go.Proofs.Ytnlfocmmnjgmpaa.B Go.Proofs.Ytnlfocmmnjgmpaa.B7
open Go.Proofs.Ytnlfocmmnjgmpaa.R (Rb)

/-- The elements of a slice of steps, each of two numbers. -/
def Ops (w : World) (a : Option Addr) (len : Nat) (K N : Nat → Int) : Prop := ∀ j, j < len → ∃ b off, a = some ⟨b, off, none⟩ ∧ w.cell? ⟨b, off + j * 2, none⟩ = some (.int .i64 (K j)) ∧ w.cell? ⟨b, off + j * 2 + 1, none⟩ = some (.int .i64 (N j))

set_option maxHeartbeats 2000000 in
theorem walk_no (a0 a1 : Int) (a2 : Option Addr) (len2 cap2 : Nat) (w : World) (h : ¬ May a0 a1) :
    Calls Try.prog 10 #[.int .i64 a0, .int .i64 a1, .slice a2 len2 cap2] w fun e w' => e = .returned (.bool true) ∧ Below w.heap.size w w' := by
  have H := Lib.hid h
  clear h
  go_enter Try.func10, Try.ntmps10
  go_wp2_with (first | (go_at_call 32; refine (new_no _ _ _ H.out).mono ?_; rintro e w' ⟨rfl, rfl⟩) | (go_at_call 38; refine (R.new_no _ _ _ H.out).mono ?_; rintro e w' ⟨rfl, rfl⟩) | (go_at_call 36; refine (B7.told_any _).mono ?_; rintro e wt ⟨rfl, hbt⟩))
  go_ret
  exact ⟨rfl, hbt⟩

set_option maxRecDepth 100000 in
set_option maxHeartbeats 8000000 in
theorem walk_yes (l0 d : Int) (a2 : Option Addr) (len2 cap2 : Nat) (K N : Nat → Int) (w : World) (hm : May l0 d) (w2 : Ops w a2 len2 K N) :
    Calls Try.prog 10 #[.int .i64 l0, .int .i64 d, .slice a2 len2 cap2] w fun e w' => e = .returned (.bool true) ∧ Below w.heap.size w w' := by
  have W2 := Lib.hid w2
  clear w2
  have HM := Lib.hid hm
  obtain ⟨p0, p1, d0, d1⟩ := hm
  go_enter Try.func10, Try.ntmps10
  go_wp2_with fail
  refine (new_yes l0 d _ HM.out).mono ?_
  rintro e w0 ⟨rfl, h0, hw⟩
  have hb0 : Below w.heap.size w w0 := by rw [hw]; exact (Below.refl _ _).alloc (Nat.le_refl _) _
  have hs0 : w0.heap.size = w.heap.size + 1 := by rw [hw]; simp
  have HS0 := Lib.hid hs0
  clear hw hs0
  go_wp2_with fail
  refine (R.new_yes l0 d _ HM.out).mono ?_
  rintro e wz ⟨rfl, r0, hw⟩
  have hbz : Below w.heap.size w wz := by rw [hw]; exact hb0.alloc (by have := HS0.out; omega) _
  have hsz : w.heap.size + 2 ≤ wz.heap.size := by rw [hw]; have := HS0.out; simp; omega
  have hz0 : Br wz w.heap.size 0 0 l0 d := by rw [hw]; exact Blk.alloc h0 _
  rw [HS0.out] at r0
  simp only [HS0.out]
  clear hw h0 hb0 HS0
  by_cases hlen : 150 < len2
  · have k1 : decide (150 < (len2 : Int)) = true := decide_eq_true (by omega)
    go_wp2_with (go_at_call 36; refine (B7.told_any _).mono ?_; rintro e wt ⟨rfl, hbt⟩)
    go_ret
    exact ⟨rfl, hbz.trans (hbt.mono (by omega))⟩
  · have k1 : decide (150 < (len2 : Int)) = false := decide_eq_false (by omega)
    go_wp2_with fail
    go_loopw [9] (fun i wr => ∃ (j : Nat) (a b l : Int), j ≤ len2 ∧ i = .int .i64 j ∧ Hid (0 ≤ a ∧ a ≤ 1000 ∧ 0 ≤ b ∧ b ≤ 1000 ∧ 0 ≤ l ∧ l ≤ 1000 ∧ (b = 0 ∨ l ≤ a)) ∧ Br wr w.heap.size a b l d ∧ Rb wr (w.heap.size + 1) a b l d ∧ Below w.heap.size w wr ∧ w.heap.size + 2 ≤ wr.heap.size) (fun i _ => len2 - (intOf i).toNat)
    case atStart => exact ⟨0, 0, 0, l0, Nat.zero_le _, rfl, (by show _ ∧ _; omega), hz0, r0, hbz, hsz⟩
    case round =>
      obtain ⟨j, a, b, l, hj, rfl, hI, hB, hR, hW, hS⟩ := hrel
      clear hz0 r0 hbz hsz
      by_cases hlt : j < len2
      · obtain ⟨ab, off, rfl, c0, c1⟩ := W2.out j hlt
        have hc0 := cell_later hW c0
        have hc1 := cell_later hW c1
        have hab := World.block_lt_of_cell? w _ c0
        clear c0 c1
        generalize K j = kk at hc0
        generalize N j = nn at hc1
        obtain ⟨kd, kd0, kd1, hKd⟩ := and_mask kk 7 (by omega) (by omega)
        obtain ⟨ab1, ab2, ab3, ab4, ab5, ab6⟩ : 0 ≤ a ∧ a ≤ 1000 ∧ 0 ≤ b ∧ b ≤ 1000 ∧ 0 ≤ l ∧ l ≤ 1000 := by have := hI.out; omega
        go_upto_block 2 with fail
        go_cut [] (fun wx => ∃ (A B L : Int), Hid (0 ≤ A ∧ A ≤ 1000 ∧ 0 ≤ B ∧ B ≤ 1000 ∧ 0 ≤ L ∧ L ≤ 1000 ∧ (B = 0 ∨ L ≤ A)) ∧ Br wx w.heap.size A B L d ∧ Rb wx (w.heap.size + 1) A B L d ∧ Below w.heap.size w wx ∧ w.heap.size + 2 ≤ wx.heap.size)
        case first =>
          have hC1 := Lib.hid fun (w1 : World) (g1 : wr.grownBy w1 (some w.heap.size)) => (World.cell?_of_block (a := ⟨ab, off + j * 2 + 1, none⟩) (g1.block ab (by simp at hab; omega) (by simp at hab ⊢; omega))).trans hc1
          by_cases c3 : kd < 3
          · by_cases hal : a < l
            · have C1 := Lib.hid (enter_in w.heap.size a b l d _ hB (st_lit (by omega)) hal)
              have C2 := Lib.hid fun W (hR : Rb W (w.heap.size + 1) a b l d) => R.enter_in _ a b l d W hR (st_lit (by omega)) hal
              go_wp2_with (first | (go_at_call 33; refine C1.out.mono ?_; rintro e w1 ⟨rfl, h1, g1⟩; have hR1 := Blk.grown hR g1 (by omega)) | (go_at_call 39; refine (C2.out _ hR1).mono ?_; rintro e w2 ⟨rfl, h2, g2⟩))
              go_meet
              exact ⟨a + 1, b, l, (by have := hI.out; show _ ∧ _; omega), Blk.grown h1 g2 (by omega), h2, below_of_grown (below_of_grown hW g1 (Nat.le_refl _) (by omega)) g2 (by omega) (by have := g1.size; omega), by have := g1.size; have := g2.size; omega⟩
            · by_cases hbd : b < d
              · have C1 := Lib.hid (enter_wait w.heap.size a b l d _ hB (st_lit (by omega)) hal hbd)
                have C2 := Lib.hid fun W (hR : Rb W (w.heap.size + 1) a b l d) => R.enter_wait _ a b l d W hR (st_lit (by omega)) hal hbd
                go_wp2_with (first | (go_at_call 33; refine C1.out.mono ?_; rintro e w1 ⟨rfl, h1, g1⟩; have hR1 := Blk.grown hR g1 (by omega)) | (go_at_call 39; refine (C2.out _ hR1).mono ?_; rintro e w2 ⟨rfl, h2, g2⟩))
                go_meet
                exact ⟨a, b + 1, l, (by have := hI.out; show _ ∧ _; omega), Blk.grown h1 g2 (by omega), h2, below_of_grown (below_of_grown hW g1 (Nat.le_refl _) (by omega)) g2 (by omega) (by have := g1.size; omega), by have := g1.size; have := g2.size; omega⟩
              · have C1 := Lib.hid (enter_full w.heap.size a b l d _ hB (st_lit (by omega)) hal hbd)
                have C2 := Lib.hid fun W (hR : Rb W (w.heap.size + 1) a b l d) => R.enter_full _ a b l d W hR (st_lit (by omega)) hal hbd
                go_wp2_with (first | (go_at_call 33; refine C1.out.mono ?_; rintro e w1 ⟨rfl, h1, g1⟩; have hR1 := Blk.grown hR g1 (by omega)) | (go_at_call 39; refine (C2.out _ hR1).mono ?_; rintro e w2 ⟨rfl, h2, g2⟩))
                go_meet
                exact ⟨a, b, l, (by have := hI.out; show _ ∧ _; omega), Blk.grown h1 g2 (by omega), h2, below_of_grown (below_of_grown hW g1 (Nat.le_refl _) (by omega)) g2 (by omega) (by have := g1.size; omega), by have := g1.size; have := g2.size; omega⟩
          · by_cases c6 : kd < 6
            · by_cases ha : a = 0
              · have HA := Lib.hid ha
                clear ha
                have C1 := Lib.hid (leave_none w.heap.size a b l d _ hB (st_lit (by omega)) HA.out)
                have C2 := Lib.hid fun W (hR : Rb W (w.heap.size + 1) a b l d) => R.leave_none _ a b l d W hR (st_lit (by omega)) HA.out
                go_wp2_with (first | (go_at_call 40; refine C1.out.mono ?_; rintro e w1 ⟨rfl, h1, g1⟩; have hR1 := Blk.grown hR g1 (by omega)) | (go_at_call 41; refine (C2.out _ hR1).mono ?_; rintro e w2 ⟨rfl, h2, g2⟩))
                go_meet
                exact ⟨a, b, l, (by have := hI.out; show _ ∧ _; omega), Blk.grown h1 g2 (by omega), h2, below_of_grown (below_of_grown hW g1 (Nat.le_refl _) (by omega)) g2 (by omega) (by have := g1.size; omega), by have := g1.size; have := g2.size; omega⟩
              · have L0 := leave_some w.heap.size a b l d _ hB (st_lit (by omega)) ha
                by_cases hx : 0 < b ∧ a - 1 < l
                · rw [show inN (a - 1) b l = 1 from by have := hI.out; unfold inN; omega] at L0
                  have C1 := Lib.hid (L0)
                  have C2 := Lib.hid fun W (hR : Rb W (w.heap.size + 1) a b l d) => R.leave_one _ a b l d W hR (st_lit (by omega)) ha hx.1 hx.2
                  go_wp2_with (first | (go_at_call 40; refine C1.out.mono ?_; rintro e w1 ⟨rfl, h1, g1⟩; have hR1 := Blk.grown hR g1 (by omega)) | (go_at_call 41; refine (C2.out _ hR1).mono ?_; rintro e w2 ⟨rfl, h2, g2⟩))
                  go_meet
                  exact ⟨a - 1 + 1, b - 1, l, (by have := hI.out; show _ ∧ _; omega), Blk.grown h1 g2 (by omega), h2, below_of_grown (below_of_grown hW g1 (Nat.le_refl _) (by omega)) g2 (by omega) (by have := g1.size; omega), by have := g1.size; have := g2.size; omega⟩
                · rw [show inN (a - 1) b l = 0 from by have := hI.out; unfold inN; omega] at L0
                  rw [Int.sub_zero, Int.add_zero] at L0
                  have C1 := Lib.hid (L0)
                  have C2 := Lib.hid fun W (hR : Rb W (w.heap.size + 1) a b l d) => R.leave_no _ a b l d W hR (st_lit (by omega)) ha hx
                  go_wp2_with (first | (go_at_call 40; refine C1.out.mono ?_; rintro e w1 ⟨rfl, h1, g1⟩; have hR1 := Blk.grown hR g1 (by omega)) | (go_at_call 41; refine (C2.out _ hR1).mono ?_; rintro e w2 ⟨rfl, h2, g2⟩))
                  go_meet
                  exact ⟨a - 1, b, l, (by have := hI.out; show _ ∧ _; omega), Blk.grown h1 g2 (by omega), h2, below_of_grown (below_of_grown hW g1 (Nat.le_refl _) (by omega)) g2 (by omega) (by have := g1.size; omega), by have := g1.size; have := g2.size; omega⟩
            · by_cases ce : kd = 6
              · obtain rfl := ce
                by_cases hb : b = 0
                · have HA := Lib.hid hb
                  clear hb
                  have C1 := Lib.hid (quit_none w.heap.size a b l d _ hB (st_lit (by omega)) HA.out)
                  have C2 := Lib.hid fun W (hR : Rb W (w.heap.size + 1) a b l d) => R.quit_none _ a b l d W hR (st_lit (by omega)) HA.out
                  go_wp2_with (first | (go_at_call 34; refine C1.out.mono ?_; rintro e w1 ⟨rfl, h1, g1⟩; have hR1 := Blk.grown hR g1 (by omega)) | (go_at_call 42; refine (C2.out _ hR1).mono ?_; rintro e w2 ⟨rfl, h2, g2⟩))
                  go_meet
                  exact ⟨a, b, l, (by have := hI.out; show _ ∧ _; omega), Blk.grown h1 g2 (by omega), h2, below_of_grown (below_of_grown hW g1 (Nat.le_refl _) (by omega)) g2 (by omega) (by have := g1.size; omega), by have := g1.size; have := g2.size; omega⟩
                · have C1 := Lib.hid (quit_some w.heap.size a b l d _ hB (st_lit (by omega)) hb)
                  have C2 := Lib.hid fun W (hR : Rb W (w.heap.size + 1) a b l d) => R.quit_some _ a b l d W hR (st_lit (by omega)) hb
                  go_wp2_with (first | (go_at_call 34; refine C1.out.mono ?_; rintro e w1 ⟨rfl, h1, g1⟩; have hR1 := Blk.grown hR g1 (by omega)) | (go_at_call 42; refine (C2.out _ hR1).mono ?_; rintro e w2 ⟨rfl, h2, g2⟩))
                  go_meet
                  exact ⟨a, b - 1, l, (by have := hI.out; show _ ∧ _; omega), Blk.grown h1 g2 (by omega), h2, below_of_grown (below_of_grown hW g1 (Nat.le_refl _) (by omega)) g2 (by omega) (by have := g1.size; omega), by have := g1.size; have := g2.size; omega⟩
              · have k6 : (kd == 6) = false := beq_eq_false_iff_ne.2 ce
                by_cases hn : 0 ≤ nn ∧ nn ≤ 1000
                · obtain ⟨n0, n1⟩ := hn
                  have L0 := limit_yes w.heap.size a b l d nn _ hB (st_lit (by omega)) n0 n1
                  have L1 := fun W (hR : Rb W (w.heap.size + 1) a b l d) => R.limit_yes (w.heap.size + 1) a b l d nn W hR (st_lit (by omega)) n0 n1
                  have hq : Hid (inN a b nn = min (max (nn - a) 0) b) := rfl
                  generalize inN a b nn = q at *
                  have C1 := Lib.hid (L0)
                  have C2 := Lib.hid fun W (hR : Rb W (w.heap.size + 1) a b l d) => L1 W hR
                  go_wp2_with (first | (go_at_call 35; refine C1.out.mono ?_; rintro e w1 ⟨rfl, h1, g1⟩; have hR1 := Blk.grown hR g1 (by omega); have hc2 := hC1.out _ g1) | (go_at_call 43; refine (C2.out _ hR1).mono ?_; rintro e w2 ⟨rfl, h2, g2⟩))
                  go_meet
                  exact ⟨a + q, b - q, nn, (by have := hI.out; show _ ∧ _; have := hq.out; omega), Blk.grown h1 g2 (by omega), h2, below_of_grown (below_of_grown hW g1 (Nat.le_refl _) (by omega)) g2 (by omega) (by have := g1.size; omega), by have := g1.size; have := g2.size; omega⟩
                · have hn' : nn < 0 ∨ 1000 < nn := by omega
                  have HN := Lib.hid hn'
                  clear hn hn'
                  have C1 := Lib.hid (limit_no w.heap.size a b l d nn _ hB HN.out)
                  have C2 := Lib.hid fun W (hR : Rb W (w.heap.size + 1) a b l d) => R.limit_no _ a b l d nn W hR HN.out
                  go_wp2_with (first | (go_at_call 35; refine C1.out.mono ?_; rintro e w1 ⟨rfl, h1, g1⟩; have hR1 := Blk.grown hR g1 (by omega); have hc2 := hC1.out _ g1) | (go_at_call 43; refine (C2.out _ hR1).mono ?_; rintro e w2 ⟨rfl, h2, g2⟩))
                  go_meet
                  exact ⟨a, b, l, (by have := hI.out; show _ ∧ _; omega), Blk.grown h1 g2 (by omega), h2, below_of_grown (below_of_grown hW g1 (Nat.le_refl _) (by omega)) g2 (by omega) (by have := g1.size; omega), by have := g1.size; have := g2.size; omega⟩
        case rest =>
          obtain ⟨A, B, L, hJ, h1, r1, hW1, hS1⟩ := hcut
          clear hB hR hW hS hI ab1 ab2 ab3 ab4 ab5 ab6 hc0 hc1 kd0 kd1 hKd W2
          obtain ⟨e1, e2, e3, e4, e5, e6⟩ : 0 ≤ A ∧ A ≤ 1000 ∧ 0 ≤ B ∧ B ≤ 1000 ∧ 0 ≤ L ∧ L ≤ 1000 := by have := hJ.out; omega
          have ia : In A := ⟨by omega, by omega⟩
          have ib : In B := ⟨by omega, by omega⟩
          have o1 := eq_fl (m := A) (n := A) (by omega) (by omega) (by omega) (by omega)
          have o2 := eq_fl (m := B) (n := B) (by omega) (by omega) (by omega) (by omega)
          rw [decide_eq_true rfl] at o1 o2
          have ca : wc.cell? ⟨w.heap.size + 1, 2, none⟩ = some (.int .i64 A) := Blk.cell r1 2
          have cb : wc.cell? ⟨w.heap.size + 1, 3, none⟩ = some (.int .i64 B) := Blk.cell r1 3
          have F1 := fun n => free_any w.heap.size A B L d (wc.drewN n) (h1.drewN n) (st_lit (by omega))
          have F2 := fun n => R.free_any (w.heap.size + 1) A B L d (wc.drewN n) (r1.drewN n) (st_lit (by omega))
          generalize max (L - A) 0 = f at *
          have G1 := Lib.hid F1
          have G2 := Lib.hid F2
          clear F1 F2
          go_wp2_with fail
          go_quiet ((first | (go_at_call 44; (with_reducible exact quiet_left (load_any _ _ _ _ _ _ (h1.drewN _)))) | (go_at_call 45; (with_reducible exact quiet_left (R.of_in A B _ ia ib))) | (go_at_call 37; exact Calls.quiet_of (G1.out _)) | (go_at_call 46; exact Calls.quiet_of (G2.out _))))
          go_wp2
          go_roundw
          case rel => exact ⟨j + 1, A, B, L, by omega, by go_num, hJ, h1.drewN _, r1.drewN _, below_drewN hW1 _, hS1⟩
          case measure => simp [intOf]; omega
      · go_wp2_with (go_at_call 36; refine (B7.told_any _).mono ?_; rintro e wt ⟨rfl, hbt⟩)
        go_ret
        exact ⟨rfl, hW.trans (hbt.mono (by omega))⟩

theorem walk (a0 a1 : Int) (a2 : Option Addr) (len2 cap2 : Nat) (K N : Nat → Int) (w : World) (w2 : Ops w a2 len2 K N) :
    Calls Try.prog 10 #[.int .i64 a0, .int .i64 a1, .slice a2 len2 cap2] w fun e w' => e = .returned (.bool true) ∧ Below w.heap.size w w' := by
  by_cases hm : May a0 a1
  · exact walk_yes a0 a1 a2 len2 cap2 K N w hm w2
  · exact walk_no a0 a1 a2 len2 cap2 w hm
end Go.Proofs.Ytnlfocmmnjgmpaa.Bp
