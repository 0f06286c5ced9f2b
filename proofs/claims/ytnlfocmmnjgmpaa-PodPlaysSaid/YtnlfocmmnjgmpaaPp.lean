/- PodPlays. -/
import Derived.Test.YtnlfocmmnjgmpaaD8
import Derived.Test.YtnlfocmmnjgmpaaD4
import Derived.Test.YtnlfocmmnjgmpaaE3
import Derived.Test.YtnlfocmmnjgmpaaIn3
import Derived.Deep.DeepCutAuto
import Derived.Deep.CutBlock
import Derived.Deep.RegionHeld3
namespace Go.Proofs.Ytnlfocmmnjgmpaa.Pp
open Go.RowKit Go.Proofs.Ytnlfocmmnjgmpaa.Fl Go.Proofs.Ytnlfocmmnjgmpaa.L Go.Proofs.Ytnlfocmmnjgmpaa.B Go.Proofs.Ytnlfocmmnjgmpaa.B7 Go.Proofs.Ytnlfocmmnjgmpaa.D Go.Proofs.Ytnlfocmmnjgmpaa.D2 Go.Proofs.Ytnlfocmmnjgmpaa.D3 Go.Proofs.Ytnlfocmmnjgmpaa.D4 Go.Proofs.Ytnlfocmmnjgmpaa.In2
open Go.Proofs.Ytnlfocmmnjgmpaa.R (Rb)
open Go.Proofs.Ytnlfocmmnjgmpaa.E (Rd Qb rd_drew)

theorem rd_two {w w' : World} {p g p2 g2 : Nat} {id made told last sum a b l d : Int} (h : Rd w p g id made told last sum a b l d) (t : Two w w' p2 g2) (n1 : p ≠ p2) (n2 : p ≠ g2) (n3 : g ≠ p2) (n4 : g ≠ g2) : Rd w' p g id made told last sum a b l d :=
  ⟨Blk.two h.pod t n1 n2, Blk.two h.br t n3 n4, h.ne⟩
theorem leave_one' {g : Nat} {a b l d : Int} {W : World} (hW : Br W g a b l d) (s : St a b l d) (ha : ¬ a = 0) (hx : 0 < b ∧ a - 1 < l) (hv : b = 0 ∨ l ≤ a) : Calls Try.prog 40 #[.pointer (some ⟨g, 0, none⟩)] W (B.Post W g (.tuple #[.bool true, .int .i64 0]) (a - 1 + 1) (b - 1) l d) := by
  have h := B.leave_some g a b l d W hW s ha
  rw [show inN (a - 1) b l = 1 from by unfold inN; omega] at h
  exact h
theorem leave_no' {g : Nat} {a b l d : Int} {W : World} (hW : Br W g a b l d) (s : St a b l d) (ha : ¬ a = 0) (hx : ¬ (0 < b ∧ a - 1 < l)) : Calls Try.prog 40 #[.pointer (some ⟨g, 0, none⟩)] W (B.Post W g (.tuple #[.bool false, .int .i64 0]) (a - 1) b l d) := by
  have h := B.leave_some g a b l d W hW s ha
  rw [show inN (a - 1) b l = 0 from by have := s.2.1; unfold inN; omega, Int.add_zero, Int.sub_zero] at h
  exact h
theorem oka {id made told last sum a b l d : Int} (h : 0 ≤ a ∧ a ≤ 1000 ∧ 0 ≤ b ∧ b ≤ 1000 ∧ made ≤ told ∧ told ≤ last ∧ last ≤ 1099511627776 ∧ 0 ≤ sum ∧ sum ≤ (last - told) * 2000 ∧ (b = 0 ∨ l ≤ a)) (l0 : 0 ≤ l) (l1 : l ≤ 1000) (d0 : 0 ≤ d) (d1 : d ≤ 1000) (hi : (0 ≤ id ∧ id ≤ 9223372036854775807) ∧ 0 ≤ made) : Ok id made told last sum a b l d :=
  ⟨st_lit (by omega), hi.1, ⟨by omega, by omega⟩, ⟨by omega, by omega⟩, by omega, by omega⟩
theorem sum_bd {told last sum a b t : Int} (a0 : 0 ≤ a) (a1 : a ≤ 1000) (b0 : 0 ≤ b) (b1 : b ≤ 1000) (s0 : 0 ≤ sum) (s1 : sum ≤ (last - told) * 2000) (h : last ≤ t) : 0 ≤ sumAt last sum a b t ∧ sumAt last sum a b t ≤ (t - told) * 2000 := by
  have h1 := Int.mul_le_mul_of_nonneg_left (show a + b ≤ 2000 from by omega) (show 0 ≤ t - last from by omega)
  have h2 := Int.mul_nonneg (show 0 ≤ t - last from by omega) (show 0 ≤ a + b from by omega)
  unfold sumAt
  omega

theorem pd_drewN {w : World} {p g : Nat} {id made told last sum a b l d : Int} (h : Pd w p g id made told last sum a b l d) (n : Nat) : Pd (w.drewN n) p g id made told last sum a b l d := ⟨h.pod, h.br, h.ne⟩
theorem rd_drewN {w : World} {p g : Nat} {id made told last sum a b l d : Int} (h : Rd w p g id made told last sum a b l d) (n : Nat) : Rd (w.drewN n) p g id made told last sum a b l d := ⟨h.pod, h.br, h.ne⟩

set_option maxHeartbeats 2000000 in
theorem walk_no (a0 a1 a2 a3 : Int) (a4 : Option Addr) (len4 cap4 : Nat) (w : World) (h : ¬ MayP a0 a1 a2 a3) :
    Calls Try.prog 15 #[.int .i64 a0, .int .i64 a1, .int .i64 a2, .int .i64 a3, .slice a4 len4 cap4] w fun e w' => e = .returned (.bool true) ∧ Below w.heap.size w w' := by
  have H := Lib.hid h
  clear h
  go_enter Try.func15, Try.ntmps15
  go_wp2_with fail
  refine (D.new_no _ _ _ _ _ H.out).mono ?_
  rintro e w0 ⟨rfl, hb0⟩
  go_wp2_with fail
  refine (E.new_no _ _ _ _ _ H.out).mono ?_
  rintro e w1 ⟨rfl, hb1⟩
  go_wp2_with (go_at_call 52; refine (D8.told_any _).mono ?_; rintro e wt ⟨rfl, hbt⟩)
  go_ret
  exact ⟨rfl, (hb0.trans (hb1.mono hb0.size)).trans (hbt.mono (by have := hb0.size; have := hb1.size; omega))⟩

set_option maxRecDepth 100000 in
set_option maxHeartbeats 16000000 in
theorem walk_yes (id l d made : Int) (a4 : Option Addr) (len4 cap4 : Nat) (K N T : Nat → Int) (w : World) (hid : id ≤ 9223372036854775807) (hm : MayP id l d made) (w4 : Ops3 w a4 len4 K N T) :
    Calls Try.prog 15 #[.int .i64 id, .int .i64 l, .int .i64 d, .int .i64 made, .slice a4 len4 cap4] w fun e w' => e = .returned (.bool true) ∧ Below w.heap.size w w' := by
  have W4 := Lib.hid w4
  clear w4
  have HM := Lib.hid hm
  obtain ⟨⟨l0, l1, d0, d1⟩, i0, n0, n1⟩ := hm
  have hid := And.intro (And.intro i0 hid) n0
  go_enter Try.func15, Try.ntmps15
  go_wp2_with fail
  refine (D.new_yes id l d made _ HM.out).mono ?_
  rintro e w0 ⟨rfl, h0, hb0, hs0⟩
  go_wp2_with fail
  refine (E.new_yes id l d made _ HM.out).mono ?_
  rintro e w1 ⟨rfl, r1, hb1, hs1⟩
  have H0 : Pd w1 (w.heap.size + 1) w.heap.size id made made made 0 0 0 l d := ⟨Blk.below h0.pod hb1 (by omega), Blk.below h0.br hb1 (by omega), h0.ne⟩
  have HB := hb0.trans (hb1.mono (by omega))
  have hs2 : w1.heap.size = w.heap.size + 4 := by omega
  rw [hs0] at r1
  obtain ⟨bs, hB⟩ : ∃ n, n = w.heap.size := ⟨_, rfl⟩
  have BB := Lib.hid hB
  simp only [hs0, ← hB] at H0 r1 HB hs2 ⊢
  have S1 : Hid (bs + 4 ≤ w1.heap.size) := by show _ ≤ _; omega
  have H0' := Lib.hid H0
  have H1' := Lib.hid r1
  have HB' := Lib.hid HB
  clear h0 hb0 hb1 hs0 hs1 hB hs2 H0 r1 HB HM
  by_cases hlen : 100 < len4
  · have k1 : decide (100 < (len4 : Int)) = true := decide_eq_true (by omega)
    go_wp2_with (go_at_call 52; refine (D8.told_any _).mono ?_; rintro e wt ⟨rfl, hbt⟩)
    go_ret
    exact ⟨rfl, BB.out ▸ (HB'.out.trans (hbt.mono (by have := S1.out; omega)))⟩
  · have k1 : decide (100 < (len4 : Int)) = false := decide_eq_false (by omega)
    go_wp2_with fail
    go_loopw [13] (fun i wr => ∃ (j : Nat) (told last sum a b : Int), j ≤ len4 ∧ i = .int .i64 j ∧ Hid (0 ≤ a ∧ a ≤ 1000 ∧ 0 ≤ b ∧ b ≤ 1000 ∧ made ≤ told ∧ told ≤ last ∧ last ≤ 1099511627776 ∧ 0 ≤ sum ∧ sum ≤ (last - told) * 2000 ∧ (b = 0 ∨ l ≤ a)) ∧ Pd wr (bs + 1) bs id made told last sum a b l d ∧ Rd wr (bs + 2 + 1) (bs + 2) id made told last sum a b l d ∧ Below bs w wr ∧ bs + 4 ≤ wr.heap.size) (fun i _ => len4 - (intOf i).toNat)
    case atStart => exact ⟨0, made, made, 0, 0, 0, Nat.zero_le _, rfl, (by show _ ∧ _; omega), H0'.out, H1'.out, HB'.out, S1.out⟩
    case round =>
      obtain ⟨j, told, last, sum, a, b, hj, rfl, hI, hP, hR, hW, hS⟩ := hrel
      clear H0' H1' HB' S1
      by_cases hlt : j < len4
      · obtain ⟨ab, off, rfl, c0, c1, c2⟩ := W4.out j hlt
        have hWw : Below w.heap.size w wr := BB.out ▸ hW
        have hc0 := cell_later hWw c0
        have hc1 := cell_later hWw c1
        have hc2 := cell_later hWw c2
        clear c0 c1 c2 hWw
        generalize K j = kk at hc0
        generalize N j = nn at hc1
        generalize T j = tt at hc2
        obtain ⟨kd, kd0, kd1, hKd⟩ := and_mask kk 7 (by omega) (by omega)
        obtain ⟨ke, ke0, ke1, hKe⟩ := and_mask kk 63 (by omega) (by omega)
        obtain ⟨x, x0, x1, hX⟩ := urem nn 9 (by omega)
        have cl : wr.cell? ⟨bs + 2 + 1, 3, none⟩ = some (.int .i64 last) := Blk.cell hR.pod 3
        have la : last ≤ 1099511627776 ∧ 0 ≤ last := by have := hI.out; omega
        have e1 : IntKind.i64.wrap (last + x) = last + x := wrap_in (by omega) (by omega)
        have e2 : IntKind.i64.wrap x = x := wrap_in (by omega) (by omega)
        go_wp2_with fail
        go_region_held3 (fun w' => w'.cell? ⟨bs + 2 + 1, 3, none⟩ = some (.int .i64 last) ∧ w'.cell? ⟨ab, off + j * 3 + 1, none⟩ = some (.int .i64 nn)) (go_keep) (first | fail)
        by_cases c63 : ke = 63
        · obtain rfl := c63
          generalize tt = t at *
          go_upto_block 2 with fail
          have hP := pd_drew hP
          have hR := rd_drew hR
          have hW := hW.drew
          have hS : bs + 4 ≤ wr.drew.heap.size := hS
          clear hc0 hc1 hc2 cl la
          generalize wr.drew = U at *
          go_cut [] (fun wx => ∃ (told2 last2 sum2 a2 b2 : Int), Hid (0 ≤ a2 ∧ a2 ≤ 1000 ∧ 0 ≤ b2 ∧ b2 ≤ 1000 ∧ made ≤ told2 ∧ told2 ≤ last2 ∧ last2 ≤ 1099511627776 ∧ 0 ≤ sum2 ∧ sum2 ≤ (last2 - told2) * 2000 ∧ (b2 = 0 ∨ l ≤ a2)) ∧ Pd wx (bs + 1) bs id made told2 last2 sum2 a2 b2 l d ∧ Rd wx (bs + 2 + 1) (bs + 2) id made told2 last2 sum2 a2 b2 l d ∧ Below bs w wx ∧ bs + 4 ≤ wx.heap.size)
          case first =>
            obtain ⟨ab1, ab2, ab3, ab4⟩ : 0 ≤ a ∧ a ≤ 1000 ∧ 0 ≤ b ∧ b ≤ 1000 := by have := hI.out; omega
            by_cases hg : last ≤ t ∧ t ≤ 1099511627776
            · obtain ⟨ht1, ht2⟩ := hg
              have hsu := Lib.hid (sum_bd ab1 ab2 ab3 ab4 (by have := hI.out; omega) (by have := hI.out; omega : sum ≤ (last - told) * 2000) ht1)
              have htd : told ≤ t := by have := hI.out; omega
              by_cases c3 : kd < 3
              · by_cases hal : a < l
                · have C1 := Lib.hid (D.enter_yes (bs + 1) bs id made told last sum a b l d t _ hP (oka hI.out l0 l1 d0 d1 hid) ht1 ht2 true 0 (a + 1) (b) (fun W hW => B.enter_in _ a b l d W hW (st_lit (by have := hI.out; omega)) hal))
                  have C2 := Lib.hid fun W (hR : Rd W (bs + 2 + 1) (bs + 2) id made told last sum a b l d) => E.enter_yes (bs + 2 + 1) (bs + 2) id made told last sum a b l d t W hR (oka hI.out l0 l1 d0 d1 hid) ht1 ht2 true 0 (a + 1) (b) (fun W hW => R.enter_in _ a b l d W hW (st_lit (by have := hI.out; omega)) hal)
                  go_wp2_with (first | (go_at_call 49; refine C1.out.mono ?_; rintro e w1 ⟨rfl, h1, t1⟩; have hR1 := rd_two hR t1 (by omega) (by omega) (by omega) (by omega)) | (go_at_call 54; refine (C2.out _ hR1).mono ?_; rintro e w2 ⟨rfl, h2, t2⟩))
                  go_meet
                  exact ⟨told, t, sumAt last sum a b t, a + 1, b, (by have := hI.out; have := hsu.out; show _ ∧ _; omega), pd_two h1 t2 (by omega) (by omega) (by omega) (by omega), h2, Two.below (Two.below hW t1 (by omega) (by omega) (by omega)) t2 (by omega) (by omega) (by have := t1.size; omega), by have := t1.size; have := t2.size; omega⟩
                · by_cases hbd : b < d
                  · have C1 := Lib.hid (D.enter_yes (bs + 1) bs id made told last sum a b l d t _ hP (oka hI.out l0 l1 d0 d1 hid) ht1 ht2 false 0 (a) (b + 1) (fun W hW => B.enter_wait _ a b l d W hW (st_lit (by have := hI.out; omega)) hal hbd))
                    have C2 := Lib.hid fun W (hR : Rd W (bs + 2 + 1) (bs + 2) id made told last sum a b l d) => E.enter_yes (bs + 2 + 1) (bs + 2) id made told last sum a b l d t W hR (oka hI.out l0 l1 d0 d1 hid) ht1 ht2 false 0 (a) (b + 1) (fun W hW => R.enter_wait _ a b l d W hW (st_lit (by have := hI.out; omega)) hal hbd)
                    go_wp2_with (first | (go_at_call 49; refine C1.out.mono ?_; rintro e w1 ⟨rfl, h1, t1⟩; have hR1 := rd_two hR t1 (by omega) (by omega) (by omega) (by omega)) | (go_at_call 54; refine (C2.out _ hR1).mono ?_; rintro e w2 ⟨rfl, h2, t2⟩))
                    go_meet
                    exact ⟨told, t, sumAt last sum a b t, a, b + 1, (by have := hI.out; have := hsu.out; show _ ∧ _; omega), pd_two h1 t2 (by omega) (by omega) (by omega) (by omega), h2, Two.below (Two.below hW t1 (by omega) (by omega) (by omega)) t2 (by omega) (by omega) (by have := t1.size; omega), by have := t1.size; have := t2.size; omega⟩
                  · have C1 := Lib.hid (D.enter_yes (bs + 1) bs id made told last sum a b l d t _ hP (oka hI.out l0 l1 d0 d1 hid) ht1 ht2 false 6 (a) (b) (fun W hW => B.enter_full _ a b l d W hW (st_lit (by have := hI.out; omega)) hal hbd))
                    have C2 := Lib.hid fun W (hR : Rd W (bs + 2 + 1) (bs + 2) id made told last sum a b l d) => E.enter_yes (bs + 2 + 1) (bs + 2) id made told last sum a b l d t W hR (oka hI.out l0 l1 d0 d1 hid) ht1 ht2 false 6 (a) (b) (fun W hW => R.enter_full _ a b l d W hW (st_lit (by have := hI.out; omega)) hal hbd)
                    go_wp2_with (first | (go_at_call 49; refine C1.out.mono ?_; rintro e w1 ⟨rfl, h1, t1⟩; have hR1 := rd_two hR t1 (by omega) (by omega) (by omega) (by omega)) | (go_at_call 54; refine (C2.out _ hR1).mono ?_; rintro e w2 ⟨rfl, h2, t2⟩))
                    go_meet
                    exact ⟨told, t, sumAt last sum a b t, a, b, (by have := hI.out; have := hsu.out; show _ ∧ _; omega), pd_two h1 t2 (by omega) (by omega) (by omega) (by omega), h2, Two.below (Two.below hW t1 (by omega) (by omega) (by omega)) t2 (by omega) (by omega) (by have := t1.size; omega), by have := t1.size; have := t2.size; omega⟩
              · by_cases c5 : kd < 5
                · by_cases ha : a = 0
                  · have HA := Lib.hid ha
                    clear ha
                    have C1 := Lib.hid (D.leave_yes (bs + 1) bs id made told last sum a b l d t _ hP (oka hI.out l0 l1 d0 d1 hid) ht1 ht2 false 7 (a) (b) (fun W hW => B.leave_none _ a b l d W hW (st_lit (by have := hI.out; omega)) HA.out))
                    have C2 := Lib.hid fun W (hR : Rd W (bs + 2 + 1) (bs + 2) id made told last sum a b l d) => E.leave_yes (bs + 2 + 1) (bs + 2) id made told last sum a b l d t W hR (oka hI.out l0 l1 d0 d1 hid) ht1 ht2 false 7 (a) (b) (fun W hW => R.leave_none _ a b l d W hW (st_lit (by have := hI.out; omega)) HA.out)
                    go_wp2_with (first | (go_at_call 50; refine C1.out.mono ?_; rintro e w1 ⟨rfl, h1, t1⟩; have hR1 := rd_two hR t1 (by omega) (by omega) (by omega) (by omega)) | (go_at_call 55; refine (C2.out _ hR1).mono ?_; rintro e w2 ⟨rfl, h2, t2⟩))
                    go_meet
                    exact ⟨told, t, sumAt last sum a b t, a, b, (by have := hI.out; have := hsu.out; show _ ∧ _; omega), pd_two h1 t2 (by omega) (by omega) (by omega) (by omega), h2, Two.below (Two.below hW t1 (by omega) (by omega) (by omega)) t2 (by omega) (by omega) (by have := t1.size; omega), by have := t1.size; have := t2.size; omega⟩
                  · by_cases hx : 0 < b ∧ a - 1 < l
                    · have C1 := Lib.hid (D.leave_yes (bs + 1) bs id made told last sum a b l d t _ hP (oka hI.out l0 l1 d0 d1 hid) ht1 ht2 true 0 (a - 1 + 1) (b - 1) (fun W hW => leave_one' hW (st_lit (by have := hI.out; omega)) ha hx (by have := hI.out; omega)))
                      have C2 := Lib.hid fun W (hR : Rd W (bs + 2 + 1) (bs + 2) id made told last sum a b l d) => E.leave_yes (bs + 2 + 1) (bs + 2) id made told last sum a b l d t W hR (oka hI.out l0 l1 d0 d1 hid) ht1 ht2 true 0 (a - 1 + 1) (b - 1) (fun W hW => R.leave_one _ a b l d W hW (st_lit (by have := hI.out; omega)) ha hx.1 hx.2)
                      go_wp2_with (first | (go_at_call 50; refine C1.out.mono ?_; rintro e w1 ⟨rfl, h1, t1⟩; have hR1 := rd_two hR t1 (by omega) (by omega) (by omega) (by omega)) | (go_at_call 55; refine (C2.out _ hR1).mono ?_; rintro e w2 ⟨rfl, h2, t2⟩))
                      go_meet
                      exact ⟨told, t, sumAt last sum a b t, a - 1 + 1, b - 1, (by have := hI.out; have := hsu.out; show _ ∧ _; omega), pd_two h1 t2 (by omega) (by omega) (by omega) (by omega), h2, Two.below (Two.below hW t1 (by omega) (by omega) (by omega)) t2 (by omega) (by omega) (by have := t1.size; omega), by have := t1.size; have := t2.size; omega⟩
                    · have C1 := Lib.hid (D.leave_yes (bs + 1) bs id made told last sum a b l d t _ hP (oka hI.out l0 l1 d0 d1 hid) ht1 ht2 false 0 (a - 1) (b) (fun W hW => leave_no' hW (st_lit (by have := hI.out; omega)) ha hx))
                      have C2 := Lib.hid fun W (hR : Rd W (bs + 2 + 1) (bs + 2) id made told last sum a b l d) => E.leave_yes (bs + 2 + 1) (bs + 2) id made told last sum a b l d t W hR (oka hI.out l0 l1 d0 d1 hid) ht1 ht2 false 0 (a - 1) (b) (fun W hW => R.leave_no _ a b l d W hW (st_lit (by have := hI.out; omega)) ha hx)
                      go_wp2_with (first | (go_at_call 50; refine C1.out.mono ?_; rintro e w1 ⟨rfl, h1, t1⟩; have hR1 := rd_two hR t1 (by omega) (by omega) (by omega) (by omega)) | (go_at_call 55; refine (C2.out _ hR1).mono ?_; rintro e w2 ⟨rfl, h2, t2⟩))
                      go_meet
                      exact ⟨told, t, sumAt last sum a b t, a - 1, b, (by have := hI.out; have := hsu.out; show _ ∧ _; omega), pd_two h1 t2 (by omega) (by omega) (by omega) (by omega), h2, Two.below (Two.below hW t1 (by omega) (by omega) (by omega)) t2 (by omega) (by omega) (by have := t1.size; omega), by have := t1.size; have := t2.size; omega⟩
                · by_cases hlt2 : told < t
                  · have C1 := Lib.hid (D2.stat_yes (bs + 1) bs id made told last sum a b l d t _ hP (oka hI.out l0 l1 d0 d1 hid) ht1 ht2 hlt2)
                    have C2 := Lib.hid fun W (hR : Rd W (bs + 2 + 1) (bs + 2) id made told last sum a b l d) => E.stat_yes (bs + 2 + 1) (bs + 2) id made told last sum a b l d t W hR (oka hI.out l0 l1 d0 d1 hid) ht1 ht2 hlt2
                    generalize sumAt last sum a b t * 1000 / (t - told) = X at C1 C2
                    generalize t - made = Y at C1 C2
                    have q1 := neS id Y X
                    have q2 := guS
                    go_wp2_with (first | (go_at_call 51; refine C1.out.mono ?_; rintro e w1 ⟨rfl, h1, t1⟩; have hR1 := rd_two hR t1 (by omega) (by omega) (by omega) (by omega)) | (go_at_call 56; refine (C2.out _ hR1).mono ?_; rintro e w2 ⟨rfl, h2, t2⟩))
                    go_meet
                    exact ⟨t, t, 0, a, b, (by have := hI.out; have := hsu.out; show _ ∧ _; omega), pd_two h1 t2 (by omega) (by omega) (by omega) (by omega), h2, Two.below (Two.below hW t1 (by omega) (by omega) (by omega)) t2 (by omega) (by omega) (by have := t1.size; omega), by have := t1.size; have := t2.size; omega⟩
                  · have C1 := Lib.hid (D2.stat_same (bs + 1) bs id made told last sum a b l d t _ hP (oka hI.out l0 l1 d0 d1 hid) ht1 ht2 hlt2)
                    have C2 := Lib.hid fun W (hR : Rd W (bs + 2 + 1) (bs + 2) id made told last sum a b l d) => E.stat_same (bs + 2 + 1) (bs + 2) id made told last sum a b l d t W hR (oka hI.out l0 l1 d0 d1 hid) ht1 ht2 hlt2
                    generalize (a + b) * 1000 = X at C1 C2
                    generalize t - made = Y at C1 C2
                    have q1 := neS id Y X
                    have q2 := guS
                    go_wp2_with (first | (go_at_call 51; refine C1.out.mono ?_; rintro e w1 ⟨rfl, h1, t1⟩; have hR1 := rd_two hR t1 (by omega) (by omega) (by omega) (by omega)) | (go_at_call 56; refine (C2.out _ hR1).mono ?_; rintro e w2 ⟨rfl, h2, t2⟩))
                    go_meet
                    exact ⟨t, t, 0, a, b, (by have := hI.out; have := hsu.out; show _ ∧ _; omega), pd_two h1 t2 (by omega) (by omega) (by omega) (by omega), h2, Two.below (Two.below hW t1 (by omega) (by omega) (by omega)) t2 (by omega) (by omega) (by have := t1.size; omega), by have := t1.size; have := t2.size; omega⟩
            · have hbad := Lib.hid (show t < last ∨ 1099511627776 < t from by omega)
              clear hg
              have hsu : Hid (0 ≤ 0) := Nat.le_refl 0
              by_cases c3 : kd < 3
              · have C1 := Lib.hid (D.enter_no (bs + 1) bs id made told last sum a b l d t _ hP hbad.out)
                have C2 := Lib.hid fun W (hR : Rd W (bs + 2 + 1) (bs + 2) id made told last sum a b l d) => E.enter_no (bs + 2 + 1) (bs + 2) id made told last sum a b l d t W hR hbad.out
                go_wp2_with (first | (go_at_call 49; refine C1.out.mono ?_; rintro e w1 ⟨rfl, h1, t1⟩; have hR1 := rd_two hR t1 (by omega) (by omega) (by omega) (by omega)) | (go_at_call 54; refine (C2.out _ hR1).mono ?_; rintro e w2 ⟨rfl, h2, t2⟩))
                go_meet
                exact ⟨told, last, sum, a, b, (by have := hI.out; have := hsu.out; show _ ∧ _; omega), pd_two h1 t2 (by omega) (by omega) (by omega) (by omega), h2, Two.below (Two.below hW t1 (by omega) (by omega) (by omega)) t2 (by omega) (by omega) (by have := t1.size; omega), by have := t1.size; have := t2.size; omega⟩
              · by_cases c5 : kd < 5
                · have C1 := Lib.hid (D.leave_no (bs + 1) bs id made told last sum a b l d t _ hP hbad.out)
                  have C2 := Lib.hid fun W (hR : Rd W (bs + 2 + 1) (bs + 2) id made told last sum a b l d) => E.leave_no (bs + 2 + 1) (bs + 2) id made told last sum a b l d t W hR hbad.out
                  go_wp2_with (first | (go_at_call 50; refine C1.out.mono ?_; rintro e w1 ⟨rfl, h1, t1⟩; have hR1 := rd_two hR t1 (by omega) (by omega) (by omega) (by omega)) | (go_at_call 55; refine (C2.out _ hR1).mono ?_; rintro e w2 ⟨rfl, h2, t2⟩))
                  go_meet
                  exact ⟨told, last, sum, a, b, (by have := hI.out; have := hsu.out; show _ ∧ _; omega), pd_two h1 t2 (by omega) (by omega) (by omega) (by omega), h2, Two.below (Two.below hW t1 (by omega) (by omega) (by omega)) t2 (by omega) (by omega) (by have := t1.size; omega), by have := t1.size; have := t2.size; omega⟩
                · have C1 := Lib.hid (D2.stat_no (bs + 1) bs id made told last sum a b l d t _ hP hbad.out)
                  have C2 := Lib.hid fun W (hR : Rd W (bs + 2 + 1) (bs + 2) id made told last sum a b l d) => E.stat_no (bs + 2 + 1) (bs + 2) id made told last sum a b l d t W hR hbad.out
                  have q1 := neS 0 0 0
                  have q2 := guS
                  go_wp2_with (first | (go_at_call 51; refine C1.out.mono ?_; rintro e w1 ⟨rfl, h1, t1⟩; have hR1 := rd_two hR t1 (by omega) (by omega) (by omega) (by omega)) | (go_at_call 56; refine (C2.out _ hR1).mono ?_; rintro e w2 ⟨rfl, h2, t2⟩))
                  go_meet
                  exact ⟨told, last, sum, a, b, (by have := hI.out; have := hsu.out; show _ ∧ _; omega), pd_two h1 t2 (by omega) (by omega) (by omega) (by omega), h2, Two.below (Two.below hW t1 (by omega) (by omega) (by omega)) t2 (by omega) (by omega) (by have := t1.size; omega), by have := t1.size; have := t2.size; omega⟩
          case rest =>
            obtain ⟨told2, last2, sum2, a2, b2, hJ, h1, r1, hW1, hS1⟩ := hcut
            clear hP hR hW hS hI kd0 kd1 hKd W4
            obtain ⟨e1, e2, e3, e4⟩ : 0 ≤ a2 ∧ a2 ≤ 1000 ∧ 0 ≤ b2 ∧ b2 ≤ 1000 := by have := hJ.out; omega
            have ia : In a2 := ⟨by omega, by omega⟩
            have ib : In b2 := ⟨by omega, by omega⟩
            have o1 := eq_fl (m := a2) (n := a2) (by omega) (by omega) (by omega) (by omega)
            have o2 := eq_fl (m := b2) (n := b2) (by omega) (by omega) (by omega) (by omega)
            rw [decide_eq_true rfl] at o1 o2
            have cp : wc.cell? ⟨bs + 2 + 1, 1, none⟩ = some (.pointer (some ⟨bs + 2, 0, none⟩)) := Blk.cell r1.pod 1
            have ca : wc.cell? ⟨bs + 2, 2, none⟩ = some (.int .i64 a2) := Blk.cell r1.br 2
            have cb : wc.cell? ⟨bs + 2, 3, none⟩ = some (.int .i64 b2) := Blk.cell r1.br 3
            go_wp2_with fail
            go_quiet ((first | (go_at_call 57; (with_reducible exact quiet_left (D.load_any _ _ _ _ _ _ _ _ _ _ _ _ (pd_drewN h1 _)))) | (go_at_call 45; (with_reducible exact quiet_left (R.of_in a2 b2 _ ia ib)))))
            go_wp2
            go_roundw
            case rel => exact ⟨j + 1, told2, last2, sum2, a2, b2, by omega, by go_num, hJ, pd_drewN h1 _, rd_drewN r1 _, below_drewN hW1 _, hS1⟩
            case measure => simp [intOf]; omega
        · have k6 : (ke == 63) = false := beq_eq_false_iff_ne.2 c63
          generalize last + x = t at *
          go_upto_block 2 with fail
          have hP := pd_drew hP
          have hR := rd_drew hR
          have hW := hW.drew
          have hS : bs + 4 ≤ wr.drew.heap.size := hS
          clear hc0 hc1 hc2 cl la
          generalize wr.drew = U at *
          go_cut [] (fun wx => ∃ (told2 last2 sum2 a2 b2 : Int), Hid (0 ≤ a2 ∧ a2 ≤ 1000 ∧ 0 ≤ b2 ∧ b2 ≤ 1000 ∧ made ≤ told2 ∧ told2 ≤ last2 ∧ last2 ≤ 1099511627776 ∧ 0 ≤ sum2 ∧ sum2 ≤ (last2 - told2) * 2000 ∧ (b2 = 0 ∨ l ≤ a2)) ∧ Pd wx (bs + 1) bs id made told2 last2 sum2 a2 b2 l d ∧ Rd wx (bs + 2 + 1) (bs + 2) id made told2 last2 sum2 a2 b2 l d ∧ Below bs w wx ∧ bs + 4 ≤ wx.heap.size)
          case first =>
            obtain ⟨ab1, ab2, ab3, ab4⟩ : 0 ≤ a ∧ a ≤ 1000 ∧ 0 ≤ b ∧ b ≤ 1000 := by have := hI.out; omega
            by_cases hg : last ≤ t ∧ t ≤ 1099511627776
            · obtain ⟨ht1, ht2⟩ := hg
              have hsu := Lib.hid (sum_bd ab1 ab2 ab3 ab4 (by have := hI.out; omega) (by have := hI.out; omega : sum ≤ (last - told) * 2000) ht1)
              have htd : told ≤ t := by have := hI.out; omega
              by_cases c3 : kd < 3
              · by_cases hal : a < l
                · have C1 := Lib.hid (D.enter_yes (bs + 1) bs id made told last sum a b l d t _ hP (oka hI.out l0 l1 d0 d1 hid) ht1 ht2 true 0 (a + 1) (b) (fun W hW => B.enter_in _ a b l d W hW (st_lit (by have := hI.out; omega)) hal))
                  have C2 := Lib.hid fun W (hR : Rd W (bs + 2 + 1) (bs + 2) id made told last sum a b l d) => E.enter_yes (bs + 2 + 1) (bs + 2) id made told last sum a b l d t W hR (oka hI.out l0 l1 d0 d1 hid) ht1 ht2 true 0 (a + 1) (b) (fun W hW => R.enter_in _ a b l d W hW (st_lit (by have := hI.out; omega)) hal)
                  go_wp2_with (first | (go_at_call 49; refine C1.out.mono ?_; rintro e w1 ⟨rfl, h1, t1⟩; have hR1 := rd_two hR t1 (by omega) (by omega) (by omega) (by omega)) | (go_at_call 54; refine (C2.out _ hR1).mono ?_; rintro e w2 ⟨rfl, h2, t2⟩))
                  go_meet
                  exact ⟨told, t, sumAt last sum a b t, a + 1, b, (by have := hI.out; have := hsu.out; show _ ∧ _; omega), pd_two h1 t2 (by omega) (by omega) (by omega) (by omega), h2, Two.below (Two.below hW t1 (by omega) (by omega) (by omega)) t2 (by omega) (by omega) (by have := t1.size; omega), by have := t1.size; have := t2.size; omega⟩
                · by_cases hbd : b < d
                  · have C1 := Lib.hid (D.enter_yes (bs + 1) bs id made told last sum a b l d t _ hP (oka hI.out l0 l1 d0 d1 hid) ht1 ht2 false 0 (a) (b + 1) (fun W hW => B.enter_wait _ a b l d W hW (st_lit (by have := hI.out; omega)) hal hbd))
                    have C2 := Lib.hid fun W (hR : Rd W (bs + 2 + 1) (bs + 2) id made told last sum a b l d) => E.enter_yes (bs + 2 + 1) (bs + 2) id made told last sum a b l d t W hR (oka hI.out l0 l1 d0 d1 hid) ht1 ht2 false 0 (a) (b + 1) (fun W hW => R.enter_wait _ a b l d W hW (st_lit (by have := hI.out; omega)) hal hbd)
                    go_wp2_with (first | (go_at_call 49; refine C1.out.mono ?_; rintro e w1 ⟨rfl, h1, t1⟩; have hR1 := rd_two hR t1 (by omega) (by omega) (by omega) (by omega)) | (go_at_call 54; refine (C2.out _ hR1).mono ?_; rintro e w2 ⟨rfl, h2, t2⟩))
                    go_meet
                    exact ⟨told, t, sumAt last sum a b t, a, b + 1, (by have := hI.out; have := hsu.out; show _ ∧ _; omega), pd_two h1 t2 (by omega) (by omega) (by omega) (by omega), h2, Two.below (Two.below hW t1 (by omega) (by omega) (by omega)) t2 (by omega) (by omega) (by have := t1.size; omega), by have := t1.size; have := t2.size; omega⟩
                  · have C1 := Lib.hid (D.enter_yes (bs + 1) bs id made told last sum a b l d t _ hP (oka hI.out l0 l1 d0 d1 hid) ht1 ht2 false 6 (a) (b) (fun W hW => B.enter_full _ a b l d W hW (st_lit (by have := hI.out; omega)) hal hbd))
                    have C2 := Lib.hid fun W (hR : Rd W (bs + 2 + 1) (bs + 2) id made told last sum a b l d) => E.enter_yes (bs + 2 + 1) (bs + 2) id made told last sum a b l d t W hR (oka hI.out l0 l1 d0 d1 hid) ht1 ht2 false 6 (a) (b) (fun W hW => R.enter_full _ a b l d W hW (st_lit (by have := hI.out; omega)) hal hbd)
                    go_wp2_with (first | (go_at_call 49; refine C1.out.mono ?_; rintro e w1 ⟨rfl, h1, t1⟩; have hR1 := rd_two hR t1 (by omega) (by omega) (by omega) (by omega)) | (go_at_call 54; refine (C2.out _ hR1).mono ?_; rintro e w2 ⟨rfl, h2, t2⟩))
                    go_meet
                    exact ⟨told, t, sumAt last sum a b t, a, b, (by have := hI.out; have := hsu.out; show _ ∧ _; omega), pd_two h1 t2 (by omega) (by omega) (by omega) (by omega), h2, Two.below (Two.below hW t1 (by omega) (by omega) (by omega)) t2 (by omega) (by omega) (by have := t1.size; omega), by have := t1.size; have := t2.size; omega⟩
              · by_cases c5 : kd < 5
                · by_cases ha : a = 0
                  · have HA := Lib.hid ha
                    clear ha
                    have C1 := Lib.hid (D.leave_yes (bs + 1) bs id made told last sum a b l d t _ hP (oka hI.out l0 l1 d0 d1 hid) ht1 ht2 false 7 (a) (b) (fun W hW => B.leave_none _ a b l d W hW (st_lit (by have := hI.out; omega)) HA.out))
                    have C2 := Lib.hid fun W (hR : Rd W (bs + 2 + 1) (bs + 2) id made told last sum a b l d) => E.leave_yes (bs + 2 + 1) (bs + 2) id made told last sum a b l d t W hR (oka hI.out l0 l1 d0 d1 hid) ht1 ht2 false 7 (a) (b) (fun W hW => R.leave_none _ a b l d W hW (st_lit (by have := hI.out; omega)) HA.out)
                    go_wp2_with (first | (go_at_call 50; refine C1.out.mono ?_; rintro e w1 ⟨rfl, h1, t1⟩; have hR1 := rd_two hR t1 (by omega) (by omega) (by omega) (by omega)) | (go_at_call 55; refine (C2.out _ hR1).mono ?_; rintro e w2 ⟨rfl, h2, t2⟩))
                    go_meet
                    exact ⟨told, t, sumAt last sum a b t, a, b, (by have := hI.out; have := hsu.out; show _ ∧ _; omega), pd_two h1 t2 (by omega) (by omega) (by omega) (by omega), h2, Two.below (Two.below hW t1 (by omega) (by omega) (by omega)) t2 (by omega) (by omega) (by have := t1.size; omega), by have := t1.size; have := t2.size; omega⟩
                  · by_cases hx : 0 < b ∧ a - 1 < l
                    · have C1 := Lib.hid (D.leave_yes (bs + 1) bs id made told last sum a b l d t _ hP (oka hI.out l0 l1 d0 d1 hid) ht1 ht2 true 0 (a - 1 + 1) (b - 1) (fun W hW => leave_one' hW (st_lit (by have := hI.out; omega)) ha hx (by have := hI.out; omega)))
                      have C2 := Lib.hid fun W (hR : Rd W (bs + 2 + 1) (bs + 2) id made told last sum a b l d) => E.leave_yes (bs + 2 + 1) (bs + 2) id made told last sum a b l d t W hR (oka hI.out l0 l1 d0 d1 hid) ht1 ht2 true 0 (a - 1 + 1) (b - 1) (fun W hW => R.leave_one _ a b l d W hW (st_lit (by have := hI.out; omega)) ha hx.1 hx.2)
                      go_wp2_with (first | (go_at_call 50; refine C1.out.mono ?_; rintro e w1 ⟨rfl, h1, t1⟩; have hR1 := rd_two hR t1 (by omega) (by omega) (by omega) (by omega)) | (go_at_call 55; refine (C2.out _ hR1).mono ?_; rintro e w2 ⟨rfl, h2, t2⟩))
                      go_meet
                      exact ⟨told, t, sumAt last sum a b t, a - 1 + 1, b - 1, (by have := hI.out; have := hsu.out; show _ ∧ _; omega), pd_two h1 t2 (by omega) (by omega) (by omega) (by omega), h2, Two.below (Two.below hW t1 (by omega) (by omega) (by omega)) t2 (by omega) (by omega) (by have := t1.size; omega), by have := t1.size; have := t2.size; omega⟩
                    · have C1 := Lib.hid (D.leave_yes (bs + 1) bs id made told last sum a b l d t _ hP (oka hI.out l0 l1 d0 d1 hid) ht1 ht2 false 0 (a - 1) (b) (fun W hW => leave_no' hW (st_lit (by have := hI.out; omega)) ha hx))
                      have C2 := Lib.hid fun W (hR : Rd W (bs + 2 + 1) (bs + 2) id made told last sum a b l d) => E.leave_yes (bs + 2 + 1) (bs + 2) id made told last sum a b l d t W hR (oka hI.out l0 l1 d0 d1 hid) ht1 ht2 false 0 (a - 1) (b) (fun W hW => R.leave_no _ a b l d W hW (st_lit (by have := hI.out; omega)) ha hx)
                      go_wp2_with (first | (go_at_call 50; refine C1.out.mono ?_; rintro e w1 ⟨rfl, h1, t1⟩; have hR1 := rd_two hR t1 (by omega) (by omega) (by omega) (by omega)) | (go_at_call 55; refine (C2.out _ hR1).mono ?_; rintro e w2 ⟨rfl, h2, t2⟩))
                      go_meet
                      exact ⟨told, t, sumAt last sum a b t, a - 1, b, (by have := hI.out; have := hsu.out; show _ ∧ _; omega), pd_two h1 t2 (by omega) (by omega) (by omega) (by omega), h2, Two.below (Two.below hW t1 (by omega) (by omega) (by omega)) t2 (by omega) (by omega) (by have := t1.size; omega), by have := t1.size; have := t2.size; omega⟩
                · by_cases hlt2 : told < t
                  · have C1 := Lib.hid (D2.stat_yes (bs + 1) bs id made told last sum a b l d t _ hP (oka hI.out l0 l1 d0 d1 hid) ht1 ht2 hlt2)
                    have C2 := Lib.hid fun W (hR : Rd W (bs + 2 + 1) (bs + 2) id made told last sum a b l d) => E.stat_yes (bs + 2 + 1) (bs + 2) id made told last sum a b l d t W hR (oka hI.out l0 l1 d0 d1 hid) ht1 ht2 hlt2
                    generalize sumAt last sum a b t * 1000 / (t - told) = X at C1 C2
                    generalize t - made = Y at C1 C2
                    have q1 := neS id Y X
                    have q2 := guS
                    go_wp2_with (first | (go_at_call 51; refine C1.out.mono ?_; rintro e w1 ⟨rfl, h1, t1⟩; have hR1 := rd_two hR t1 (by omega) (by omega) (by omega) (by omega)) | (go_at_call 56; refine (C2.out _ hR1).mono ?_; rintro e w2 ⟨rfl, h2, t2⟩))
                    go_meet
                    exact ⟨t, t, 0, a, b, (by have := hI.out; have := hsu.out; show _ ∧ _; omega), pd_two h1 t2 (by omega) (by omega) (by omega) (by omega), h2, Two.below (Two.below hW t1 (by omega) (by omega) (by omega)) t2 (by omega) (by omega) (by have := t1.size; omega), by have := t1.size; have := t2.size; omega⟩
                  · have C1 := Lib.hid (D2.stat_same (bs + 1) bs id made told last sum a b l d t _ hP (oka hI.out l0 l1 d0 d1 hid) ht1 ht2 hlt2)
                    have C2 := Lib.hid fun W (hR : Rd W (bs + 2 + 1) (bs + 2) id made told last sum a b l d) => E.stat_same (bs + 2 + 1) (bs + 2) id made told last sum a b l d t W hR (oka hI.out l0 l1 d0 d1 hid) ht1 ht2 hlt2
                    generalize (a + b) * 1000 = X at C1 C2
                    generalize t - made = Y at C1 C2
                    have q1 := neS id Y X
                    have q2 := guS
                    go_wp2_with (first | (go_at_call 51; refine C1.out.mono ?_; rintro e w1 ⟨rfl, h1, t1⟩; have hR1 := rd_two hR t1 (by omega) (by omega) (by omega) (by omega)) | (go_at_call 56; refine (C2.out _ hR1).mono ?_; rintro e w2 ⟨rfl, h2, t2⟩))
                    go_meet
                    exact ⟨t, t, 0, a, b, (by have := hI.out; have := hsu.out; show _ ∧ _; omega), pd_two h1 t2 (by omega) (by omega) (by omega) (by omega), h2, Two.below (Two.below hW t1 (by omega) (by omega) (by omega)) t2 (by omega) (by omega) (by have := t1.size; omega), by have := t1.size; have := t2.size; omega⟩
            · have hbad := Lib.hid (show t < last ∨ 1099511627776 < t from by omega)
              clear hg
              have hsu : Hid (0 ≤ 0) := Nat.le_refl 0
              by_cases c3 : kd < 3
              · have C1 := Lib.hid (D.enter_no (bs + 1) bs id made told last sum a b l d t _ hP hbad.out)
                have C2 := Lib.hid fun W (hR : Rd W (bs + 2 + 1) (bs + 2) id made told last sum a b l d) => E.enter_no (bs + 2 + 1) (bs + 2) id made told last sum a b l d t W hR hbad.out
                go_wp2_with (first | (go_at_call 49; refine C1.out.mono ?_; rintro e w1 ⟨rfl, h1, t1⟩; have hR1 := rd_two hR t1 (by omega) (by omega) (by omega) (by omega)) | (go_at_call 54; refine (C2.out _ hR1).mono ?_; rintro e w2 ⟨rfl, h2, t2⟩))
                go_meet
                exact ⟨told, last, sum, a, b, (by have := hI.out; have := hsu.out; show _ ∧ _; omega), pd_two h1 t2 (by omega) (by omega) (by omega) (by omega), h2, Two.below (Two.below hW t1 (by omega) (by omega) (by omega)) t2 (by omega) (by omega) (by have := t1.size; omega), by have := t1.size; have := t2.size; omega⟩
              · by_cases c5 : kd < 5
                · have C1 := Lib.hid (D.leave_no (bs + 1) bs id made told last sum a b l d t _ hP hbad.out)
                  have C2 := Lib.hid fun W (hR : Rd W (bs + 2 + 1) (bs + 2) id made told last sum a b l d) => E.leave_no (bs + 2 + 1) (bs + 2) id made told last sum a b l d t W hR hbad.out
                  go_wp2_with (first | (go_at_call 50; refine C1.out.mono ?_; rintro e w1 ⟨rfl, h1, t1⟩; have hR1 := rd_two hR t1 (by omega) (by omega) (by omega) (by omega)) | (go_at_call 55; refine (C2.out _ hR1).mono ?_; rintro e w2 ⟨rfl, h2, t2⟩))
                  go_meet
                  exact ⟨told, last, sum, a, b, (by have := hI.out; have := hsu.out; show _ ∧ _; omega), pd_two h1 t2 (by omega) (by omega) (by omega) (by omega), h2, Two.below (Two.below hW t1 (by omega) (by omega) (by omega)) t2 (by omega) (by omega) (by have := t1.size; omega), by have := t1.size; have := t2.size; omega⟩
                · have C1 := Lib.hid (D2.stat_no (bs + 1) bs id made told last sum a b l d t _ hP hbad.out)
                  have C2 := Lib.hid fun W (hR : Rd W (bs + 2 + 1) (bs + 2) id made told last sum a b l d) => E.stat_no (bs + 2 + 1) (bs + 2) id made told last sum a b l d t W hR hbad.out
                  have q1 := neS 0 0 0
                  have q2 := guS
                  go_wp2_with (first | (go_at_call 51; refine C1.out.mono ?_; rintro e w1 ⟨rfl, h1, t1⟩; have hR1 := rd_two hR t1 (by omega) (by omega) (by omega) (by omega)) | (go_at_call 56; refine (C2.out _ hR1).mono ?_; rintro e w2 ⟨rfl, h2, t2⟩))
                  go_meet
                  exact ⟨told, last, sum, a, b, (by have := hI.out; have := hsu.out; show _ ∧ _; omega), pd_two h1 t2 (by omega) (by omega) (by omega) (by omega), h2, Two.below (Two.below hW t1 (by omega) (by omega) (by omega)) t2 (by omega) (by omega) (by have := t1.size; omega), by have := t1.size; have := t2.size; omega⟩
          case rest =>
            obtain ⟨told2, last2, sum2, a2, b2, hJ, h1, r1, hW1, hS1⟩ := hcut
            clear hP hR hW hS hI kd0 kd1 hKd W4
            obtain ⟨e1, e2, e3, e4⟩ : 0 ≤ a2 ∧ a2 ≤ 1000 ∧ 0 ≤ b2 ∧ b2 ≤ 1000 := by have := hJ.out; omega
            have ia : In a2 := ⟨by omega, by omega⟩
            have ib : In b2 := ⟨by omega, by omega⟩
            have o1 := eq_fl (m := a2) (n := a2) (by omega) (by omega) (by omega) (by omega)
            have o2 := eq_fl (m := b2) (n := b2) (by omega) (by omega) (by omega) (by omega)
            rw [decide_eq_true rfl] at o1 o2
            have cp : wc.cell? ⟨bs + 2 + 1, 1, none⟩ = some (.pointer (some ⟨bs + 2, 0, none⟩)) := Blk.cell r1.pod 1
            have ca : wc.cell? ⟨bs + 2, 2, none⟩ = some (.int .i64 a2) := Blk.cell r1.br 2
            have cb : wc.cell? ⟨bs + 2, 3, none⟩ = some (.int .i64 b2) := Blk.cell r1.br 3
            go_wp2_with fail
            go_quiet ((first | (go_at_call 57; (with_reducible exact quiet_left (D.load_any _ _ _ _ _ _ _ _ _ _ _ _ (pd_drewN h1 _)))) | (go_at_call 45; (with_reducible exact quiet_left (R.of_in a2 b2 _ ia ib)))))
            go_wp2
            go_roundw
            case rel => exact ⟨j + 1, told2, last2, sum2, a2, b2, by omega, by go_num, hJ, pd_drewN h1 _, rd_drewN r1 _, below_drewN hW1 _, hS1⟩
            case measure => simp [intOf]; omega
      · have HW := Lib.hid hW
        have HS : Hid (bs ≤ wr.heap.size) := by show _ ≤ _; omega
        clear hP hR hW hS
        go_wp2_with (go_at_call 52; refine (D8.told_any _).mono ?_; rintro e wt ⟨rfl, hbt⟩)
        go_ret
        exact ⟨rfl, BB.out ▸ (HW.out.trans (hbt.mono HS.out))⟩
end Go.Proofs.Ytnlfocmmnjgmpaa.Pp
