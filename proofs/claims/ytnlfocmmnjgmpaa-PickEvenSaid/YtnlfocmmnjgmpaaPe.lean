/- PickEven. -/
import Derived.Test.YtnlfocmmnjgmpaaPe0
import Derived.Deep.RegionHeld3
namespace Go.Proofs.Ytnlfocmmnjgmpaa.Pe
open Go.RowKit Go.Proofs.Ytnlfocmmnjgmpaa.Fl Go.Proofs.Ytnlfocmmnjgmpaa.L Go.Proofs.Ytnlfocmmnjgmpaa.P Go.Proofs.Ytnlfocmmnjgmpaa.In1 Go.Proofs.Ytnlfocmmnjgmpaa.Pq Go.Proofs.Ytnlfocmmnjgmpaa.Pe0

theorem info3 : (Try.prog.info? 3).map (fun i => (i.zero, i.size, i.bytes)) = some (some (.int .i64 0), 1, 8) := by kernel_rfl
theorem underlying32 : Try.prog.underlying 32 = some (.slice 3) := by kernel_rfl
theorem urem (a m : Int) (h0 : 0 < m) : ∃ x : Nat, (x : Int) < m ∧ (IntKind.u64.wrap a).tmod m = (x : Int) := by
  have e : IntKind.u64.wrap a = a % 18446744073709551616 := by simp [IntKind.wrap, IntKind.signed, IntKind.bits]
  have p : 0 ≤ IntKind.u64.wrap a := by rw [e]; omega
  have q1 := Int.emod_nonneg (IntKind.u64.wrap a) (b := m) (by omega)
  have q2 := Int.emod_lt_of_pos (IntKind.u64.wrap a) h0
  refine ⟨((IntKind.u64.wrap a) % m).toNat, by omega, ?_⟩
  rw [Int.tmod_eq_emod_of_nonneg p]; omega
theorem wrap_in {n : Int} (h0 : -9223372036854775808 ≤ n) (h1 : n ≤ 9223372036854775807) : IntKind.i64.wrap n = n := by rw [IntKind.wrap_i64]; omega
theorem busy_cell {W : World} {B p c j : Nat} (h : W.ownsRow B 3 1 (.slice (some ⟨B, 0, none⟩) p p) p (ys p c)) (hj : j < p) : W.cell? ⟨B, j, none⟩ = some (.int .i64 (lv p c j : Int)) := by
  rw [h.cellAt j (by omega), ys_get hj]
theorem calls_spare {W : World} {B p c m pm : Nat} {z : Value} (h : W.ownsRow B 23 1 z p ((ll p c p).map cv)) (hp : 0 < p) (h20 : p ≤ 20) (hpm : pm = p * m) (hm : m ≤ 10) (hc : c ≤ pm) :
    Calls Try.prog 31 #[z, .int .i64 m] W fun e w' => e = .returned (.int .i64 ((pm : Int) - c)) ∧ W = w' := by
  subst hpm
  have k := spare_any z ((ll p c p).map zb) (m : Int) W (by simp [ll_len]; omega) (cx_of_own (by rw [ll_len]; exact h))
  rw [List.length_map, ll_len, spare_all hp hc hm] at k
  exact k
theorem calls_least {W : World} {B p c m pm : Nat} {z : Value} (h : W.ownsRow B 23 1 z p ((ll p c p).map cv)) (hp : 0 < p) (h20 : p ≤ 20) (hpm : pm = p * m) (hm : m ≤ 10) (hc : c ≤ pm) :
    Calls Try.prog 29 #[z, .int .i64 m] W fun e w' => e = .returned (.int .i64 (if c < pm then ((c % p : Nat) : Int) else -1)) ∧ W = w' := by
  subst hpm
  have k := least_any z ((ll p c p).map zb) (m : Int) W (by simp [ll_len]; omega) (cx_of_own (by rw [ll_len]; exact h))
  rw [List.length_map, ll_len, least_all hp hc hm] at k
  exact k

set_option maxRecDepth 100000 in
set_option maxHeartbeats 8000000 in
theorem walk (a0 a1 a2 : Int) (w : World) :
    Calls Try.prog 7 #[.int .i64 a0, .int .i64 a1, .int .i64 a2] w fun e w' => e = .returned (.bool true) ∧ Below w.heap.size w w' := by
  obtain ⟨x, hx1, hX⟩ := urem a0 20 (by omega)
  obtain ⟨m, hm1, hM⟩ := urem a1 11 (by omega)
  obtain ⟨k, hk1, hK⟩ := urem a2 251 (by omega)
  obtain ⟨p, hp⟩ : ∃ p : Nat, 1 + (x : Int) = p := ⟨1 + x, by omega⟩
  have p1 : 0 < p := by omega
  have p2 : p ≤ 20 := by omega
  have m1 : m ≤ 10 := by omega
  have k1 : k ≤ 250 := by omega
  clear hx1 hm1 hk1
  obtain ⟨i3, hi3, hz30, hz31, hz32⟩ := info_parts info3
  obtain ⟨i0, hi, hz0, hz1, hz2⟩ := info_parts info23
  go_enter Try.func7, Try.ntmps7
  go_wp2_with (at_make; refine wpList_make_full _ rfl _ _ 32 rfl w.heap.size 3 i3 (.int .i64 0) 1 underlying32 hi3 hz30 hz31 _ _ _ _ p rfl rfl (by omega) (by omega) (by rw [hz32]; omega) (by unfold maxLen; omega) (Nat.le_refl _) ?_)
  intro wz hown hgz
  rw [toList_madeCells_one, ← ys_zero] at hown
  have hS := (hown.lt w.heap.size rfl).2
  have hW : Below w.heap.size w wz := (Below.refl _ _).grown hgz (Nat.le_refl _) (by intro k hk; cases hk)
  clear hgz hX hM hK hp
  have OW := Lib.hid hown
  have BW := Lib.hid hW
  have SW : Hid (w.heap.size < wz.heap.size) := hS
  clear hown hW hS
  obtain ⟨pm, hpm⟩ : ∃ n, n = p * m := ⟨_, rfl⟩
  have pm2 : pm ≤ 200 := by rw [hpm]; exact Nat.mul_le_mul p2 m1
  have e1 : IntKind.i64.wrap ((p : Int) * (m : Int)) = (pm : Int) := by rw [← Int.natCast_mul, ← hpm]; exact wrap_in (by omega) (by omega)
  have E1 := Lib.hid e1
  have HPM := Lib.hid hpm
  clear e1 hpm
  go_wp2_with fail
  go_loopw [11, 12] (fun a b wr => ∃ c : Nat, a = .int .i64 (c : Int) ∧ b = .int .i64 (c : Int) ∧ c ≤ k ∧ c ≤ pm ∧ wr.ownsRow w.heap.size 3 1 (.slice (some ⟨w.heap.size, 0, none⟩) p p) p (ys p c) ∧ Below w.heap.size w wr ∧ w.heap.size < wr.heap.size) (fun a _ _ => k - (intOf a).toNat)
  case atStart => exact ⟨0, rfl, rfl, by omega, by omega, OW.out, BW.out, SW.out⟩
  case round =>
    obtain ⟨c, rfl, rfl, c1, c2, hO, hW, hS⟩ := hrel
    clear OW BW SW
    have c0 : (0 : Int) ≤ (c : Int) := Int.natCast_nonneg _
    have OW := Lib.hid hO
    have BW := Lib.hid hW
    have SW : Hid (w.heap.size < wr.heap.size) := hS
    clear hO hW hS
    by_cases hck : c < k
    · have q1 : decide ((c : Int) < (k : Int)) = true := decide_eq_true (by omega)
      go_wp2_with fail
      go_loopw [13, 14] (fun z b wr => ∃ i : Nat, b = .int .i64 (i : Int) ∧ i ≤ p ∧ wr.ownsRow (w.heap.size + 1) 23 1 z i ((ll p c i).map cv) ∧ wr.ownsRow w.heap.size 3 1 (.slice (some ⟨w.heap.size, 0, none⟩) p p) p (ys p c) ∧ Below w.heap.size w wr ∧ w.heap.size < wr.heap.size) (fun _ b _ => p - (intOf b).toNat)
      case atStart => exact ⟨0, rfl, by omega, World.ownsRow_nil _ _ _ _, OW.out, BW.out, SW.out⟩
      case round =>
        obtain ⟨i, rfl, i1, hL, hO, hW, hS⟩ := hrel
        clear OW BW SW
        have i0' : (0 : Int) ≤ (i : Int) := Int.natCast_nonneg _
        by_cases hip : i < p
        · have q2 : decide ((i : Int) < (p : Int)) = true := decide_eq_true (by omega)
          have hc := busy_cell hO hip
          have hlv : lv p c i ≤ 10 := Nat.le_trans (lv_le p1 (by rw [← HPM.out]; exact c2) i) m1
          have inn : In (lv p c i : Int) := ⟨by omega, by omega⟩
          have in0 : In (0 : Int) := ⟨by omega, by omega⟩
          have LL := Lib.hid (show (ll p c (i + 1)).map cv = (ll p c i).map cv ++ [cv ((lv p c i : Int), 0)] from by rw [ll_snoc, List.map_append]; rfl)
          have OW := Lib.hid hO
          have BW := Lib.hid hW
          have SW : Hid (w.heap.size < wr.heap.size) := hS
          clear hO hW hS
          generalize hg : lv p c i = g at *
          clear hg
          go_wp2_with (first | (go_at_call 19; refine (of_in (g : Int) 0 _ inn in0).mono ?_; rintro e w' ⟨rfl, rfl⟩) | (at_builtin; refine wpList_append_own _ rfl (Operand.tmp 42) (Operand.tmp 48) 33 rfl (w.heap.size + 1) 23 i0 (.complex .f64 0 0) 1 16 Pn.underlying33 hi hz0 hz1 hz2 rfl (by decide) _ i ((ll p c i).map cv) rfl (hL.alloc _) ⟨wr.heap.size, 0, none⟩ 1 1 [cv ((g : Int), 0)] rfl rfl ?_ ?_ ?_ ?_ ?_ ?_; exact (cell_one_new _ _ _); exact (fun u hu => by simp only [List.mem_singleton] at hu; subst hu; rfl); exact (by unfold maxLen; omega); exact (by omega); exact (by have := SW.out; simp; omega); intro va wa oa ga _))
          have hOa : wa.ownsRow w.heap.size 3 1 (.slice (some ⟨w.heap.size, 0, none⟩) p p) p (ys p c) := (OW.out.alloc _).kept ga (.inr fun e => by have := hL.lt w.heap.size e.symm; omega)
          have hWa : Below w.heap.size w wa := (BW.out.alloc (by have := SW.out; omega) _).grown ga (by have := SW.out; simp; omega) (by intro kk hk; have := hL.lt kk hk; omega)
          have hSa : w.heap.size < wa.heap.size := by have := SW.out; have := ga.size; simp at this; omega
          rw [← LL.out] at oa
          have OA := Lib.hid oa
          have OW := Lib.hid hOa
          have BW := Lib.hid hWa
          have SW : Hid (w.heap.size < wa.heap.size) := hSa
          clear oa ga hOa hWa hSa hL hc LL
          go_roundw
          case rel => exact ⟨i + 1, by simp, by omega, OA.out, OW.out, BW.out, SW.out⟩
          case measure => simp [intOf]; omega
        · obtain rfl : p = i := by omega
          have q2 : decide ((p : Int) < (p : Int)) = false := decide_eq_false (by omega)
          have SP := Lib.hid (calls_spare hL p1 p2 HPM.out m1 c2)
          have LE := Lib.hid (calls_least hL p1 p2 HPM.out m1 c2)
          have OW := Lib.hid hO
          have BW := Lib.hid hW
          have SW : Hid (w.heap.size < wr.heap.size) := hS
          have ee := E1.out
          clear hO hW hS hL
          by_cases hcp : c < pm
          · rw [if_pos hcp] at LE
            have hr := Nat.mod_lt c p1
            have HT := Lib.hid (show (c : Int).tmod (p : Int) = ((c % p : Nat) : Int) from by rw [Int.tmod_eq_emod_of_nonneg c0]; exact (Int.natCast_emod c p).symm)
            have hlv : lv p c (c % p) ≤ 10 := Nat.le_trans (lv_le p1 (by rw [← HPM.out]; exact c2) _) m1
            have YS := Lib.hid (ys_step (c := c) p1)
            have hc := busy_cell OW.out hr
            have hf := OW.out.frozenAt (c % p)
            obtain ⟨hst, hgr⟩ := OW.out.stored (c % p) (.int .i64 ((lv p c (c % p) : Int) + 1))
            rw [← YS.out] at hst
            have hWn : Below w.heap.size w _ := BW.out.grown hgr (by have := SW.out; omega) (by intro kk hk; simp at hk; omega)
            have ON := Lib.hid hst
            have BN := Lib.hid hWn
            clear hst hgr hWn YS OW BW
            generalize hg : lv p c (c % p) = g at *
            clear hg
            have ht := HT.out
            clear HT
            generalize hr' : c % p = r at *
            clear hr'
            have r0 : (0 : Int) ≤ (r : Int) := Int.natCast_nonneg _
            have q3 : decide ((0 : Int) ≤ (r : Int)) = true := decide_eq_true r0
            have q4 : decide ((c : Int) < (pm : Int)) = true := decide_eq_true (by omega)
            have q5 : decide ((p : Int) ≤ (r : Int)) = false := decide_eq_false (by omega)
            have q6 : decide ((r : Int) < 0) = false := decide_eq_false (by omega)
            have q7 : ¬ (p : Int) = 0 := by omega
            have q8 : IntKind.i64.wrap ((pm : Int) - (c : Int)) = (pm : Int) - (c : Int) := wrap_in (by omega) (by omega)
            have q9 : IntKind.i64.wrap (r : Int) = r := wrap_in (by omega) (by omega)
            go_wp2_with (first | (go_at_call 31; refine SP.out.mono ?_; rintro e w' ⟨rfl, rfl⟩) | (go_at_call 29; refine LE.out.mono ?_; rintro e w' ⟨rfl, rfl⟩))
            go_roundw
            case rel => exact ⟨c + 1, by simp, by simp, by omega, by omega, ON.out, BN.out, by have := SW.out; simp; omega⟩
            case measure => simp [intOf]; omega
          · rw [if_neg hcp] at LE
            obtain rfl : c = pm := by omega
            have q7 : ¬ (p : Int) = 0 := by omega
            have q3 : decide ((0 : Int) ≤ -1) = false := by decide
            have q4 : decide ((c : Int) < (c : Int)) = false := decide_eq_false (by omega)
            have q5 : decide ((p : Int) ≤ -1) = false := decide_eq_false (by omega)
            go_wp2_with (first | (go_at_call 31; refine SP.out.mono ?_; rintro e w' ⟨rfl, rfl⟩) | (go_at_call 29; refine LE.out.mono ?_; rintro e w' ⟨rfl, rfl⟩))
            clear SP LE E1
            have hmin : min (k : Int) (c : Int) = (c : Int) := by omega
            go_loopw [16] (fun b wr => ∃ i : Nat, b = .int .i64 (i : Int) ∧ i ≤ p ∧ wr.ownsRow w.heap.size 3 1 (.slice (some ⟨w.heap.size, 0, none⟩) p p) p (ys p c) ∧ Below w.heap.size w wr ∧ w.heap.size < wr.heap.size) (fun b _ => p - (intOf b).toNat)
            case atStart => exact ⟨0, rfl, by omega, OW.out, BW.out, SW.out⟩
            case round =>
              obtain ⟨i, rfl, i1, hO, hW, hS⟩ := hrel
              clear OW BW SW
              have i0' : (0 : Int) ≤ (i : Int) := Int.natCast_nonneg _
              by_cases hip : i < p
              · have q2 : decide ((i : Int) < (p : Int)) = true := decide_eq_true (by omega)
                have hc := busy_cell hO hip
                have hl1 : lv p c i ≤ m := lv_le p1 (by rw [← HPM.out]; exact c2) i
                have hl2 : c / p ≤ lv p c i ∧ lv p c i ≤ c / p + 1 := by unfold lv; split <;> omega
                have ht : (c : Int).tdiv (p : Int) = ((c / p : Nat) : Int) := by rw [Int.tdiv_eq_ediv_of_nonneg c0]; exact (Int.natCast_ediv c p).symm
                have hdp : c / p ≤ c := Nat.div_le_self _ _
                have OW := Lib.hid hO
                have BW := Lib.hid hW
                have SW : Hid (w.heap.size < wr.heap.size) := hS
                clear hO hW hS
                generalize lv p c i = g at *
                generalize c / p = d at *
                have t1 : decide ((m : Int) < (g : Int)) = false := decide_eq_false (by omega)
                have t2 : decide ((g : Int) < (d : Int)) = false := decide_eq_false (by omega)
                have t3 : decide ((d : Int) + 1 < (g : Int)) = false := decide_eq_false (by omega)
                have u1 : decide (m < g) = false := decide_eq_false (by omega)
                have u2 : decide (g < d) = false := decide_eq_false (by omega)
                have u3 : decide (d + 1 < g) = false := decide_eq_false (by omega)
                have u7 : ¬ p = 0 := by omega
                have t4 : IntKind.i64.wrap (d : Int) = d := wrap_in (by omega) (by omega)
                have t5 : IntKind.i64.wrap ((d : Int) + 1) = d + 1 := wrap_in (by omega) (by omega)
                go_wp2_with fail
                go_region_held3 (fun w' => w'.cell? ⟨w.heap.size, i, none⟩ = some (.int .i64 (g : Int))) (go_keep) (first | fail)
                go_wp2
                go_roundw
                case rel => exact ⟨i + 1, by simp, by omega, OW.out.drew, BW.out.drew, SW.out⟩
                case measure => simp [intOf]; omega
              · obtain rfl : p = i := by omega
                have q2 : decide ((p : Int) < (p : Int)) = false := decide_eq_false (by omega)
                have BW := Lib.hid hW
                have SW : Hid (w.heap.size < wr.heap.size) := hS
                clear hO hW hS
                go_wp2_with (go_at_call 28; refine (told_any _).mono ?_; rintro e wt ⟨rfl, hbt⟩)
                go_ret
                exact ⟨by first | rfl | simp, BW.out.trans (hbt.mono (by have := SW.out; omega))⟩

    · obtain rfl : k = c := by omega
      have q1 : decide ((k : Int) < (k : Int)) = false := decide_eq_false (by omega)
      have hmin : min (k : Int) (pm : Int) = (k : Int) := by omega
      have ee := E1.out
      have q7 : ¬ (p : Int) = 0 := by omega
      clear E1
      go_wp2_with fail
      go_loopw [16] (fun b wr => ∃ i : Nat, b = .int .i64 (i : Int) ∧ i ≤ p ∧ wr.ownsRow w.heap.size 3 1 (.slice (some ⟨w.heap.size, 0, none⟩) p p) p (ys p k) ∧ Below w.heap.size w wr ∧ w.heap.size < wr.heap.size) (fun b _ => p - (intOf b).toNat)
      case atStart => exact ⟨0, rfl, by omega, OW.out, BW.out, SW.out⟩
      case round =>
        obtain ⟨i, rfl, i1, hO, hW, hS⟩ := hrel
        clear OW BW SW
        have i0' : (0 : Int) ≤ (i : Int) := Int.natCast_nonneg _
        by_cases hip : i < p
        · have q2 : decide ((i : Int) < (p : Int)) = true := decide_eq_true (by omega)
          have hc := busy_cell hO hip
          have hl1 : lv p k i ≤ m := lv_le p1 (by rw [← HPM.out]; exact c2) i
          have hl2 : k / p ≤ lv p k i ∧ lv p k i ≤ k / p + 1 := by unfold lv; split <;> omega
          have ht : (k : Int).tdiv (p : Int) = ((k / p : Nat) : Int) := by rw [Int.tdiv_eq_ediv_of_nonneg c0]; exact (Int.natCast_ediv k p).symm
          have hdp : k / p ≤ k := Nat.div_le_self _ _
          have OW := Lib.hid hO
          have BW := Lib.hid hW
          have SW : Hid (w.heap.size < wr.heap.size) := hS
          clear hO hW hS
          generalize lv p k i = g at *
          generalize k / p = d at *
          have t1 : decide ((m : Int) < (g : Int)) = false := decide_eq_false (by omega)
          have t2 : decide ((g : Int) < (d : Int)) = false := decide_eq_false (by omega)
          have t3 : decide ((d : Int) + 1 < (g : Int)) = false := decide_eq_false (by omega)
          have u1 : decide (m < g) = false := decide_eq_false (by omega)
          have u2 : decide (g < d) = false := decide_eq_false (by omega)
          have u3 : decide (d + 1 < g) = false := decide_eq_false (by omega)
          have u7 : ¬ p = 0 := by omega
          have t4 : IntKind.i64.wrap (d : Int) = d := wrap_in (by omega) (by omega)
          have t5 : IntKind.i64.wrap ((d : Int) + 1) = d + 1 := wrap_in (by omega) (by omega)
          go_wp2_with fail
          go_region_held3 (fun w' => w'.cell? ⟨w.heap.size, i, none⟩ = some (.int .i64 (g : Int))) (go_keep) (first | fail)
          go_wp2
          go_roundw
          case rel => exact ⟨i + 1, by simp, by omega, OW.out.drew, BW.out.drew, SW.out⟩
          case measure => simp [intOf]; omega
        · obtain rfl : p = i := by omega
          have q2 : decide ((p : Int) < (p : Int)) = false := decide_eq_false (by omega)
          have BW := Lib.hid hW
          have SW : Hid (w.heap.size < wr.heap.size) := hS
          clear hO hW hS
          go_wp2_with (go_at_call 28; refine (told_any _).mono ?_; rintro e wt ⟨rfl, hbt⟩)
          go_ret
          exact ⟨by first | rfl | simp, BW.out.trans (hbt.mono (by have := SW.out; omega))⟩

end Go.Proofs.Ytnlfocmmnjgmpaa.Pe
