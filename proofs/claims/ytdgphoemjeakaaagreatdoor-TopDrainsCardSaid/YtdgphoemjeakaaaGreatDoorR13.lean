/- sample.Which, whatever the settings: who is asked is among them. -/
import Derived.Test.YtdgphoemjeakaaaGreatDoorR04
namespace Go.Proofs.YtdgphoemjeakaaaGreatDoor.S
open Go.RowKit K
set_option maxRecDepth 100000
set_option maxHeartbeats 4000000 in
theorem which_w (w : World) (S : Nat → Prop) (v : Value) (ids : List Int) (mo : Nat) (own : Own w S 3 1 v ids.length (ids.map (Value.int .i64))) (hn : ids.length ≤ 200) (r : Int) (r0 : 0 ≤ r) (r1 : r ≤ 1099511627776) :
    Calls Tryz.prog 91 #[v, .int .i64 mo, .int .i64 r] w fun e w' => ∃ (v' : Value) (ys : List Int), e = .returned v' ∧ ys.length ≤ 17 ∧ (∀ y, y ∈ ys → y ∈ ids) ∧ Own w' (New w) 3 1 v' ys.length (ys.map (Value.int .i64)) ∧ Chg No w w' := by
  obtain ⟨i0, hi, hz0, hz1, hz2⟩ := info_parts (P := Tryz.prog) (e := 3) (z := .int .i64 0) (size := 1) (bytes := 8) (by kernel_rfl)
  obtain ⟨va, cap, rfl⟩ := own.sl
  have HO := Lib.hid own
  clear own
  obtain ⟨s0, s1⟩ := size_bd ids.length
  have HZ := Lib.hid fun w => size_any ids.length w hn
  generalize hks : size ids.length = k at *
  clear hks
  by_cases hm : 0 < mo
  · have hm1 : decide (0 < mo) = true := decide_eq_true hm
    by_cases hm2 : mo < k
    · have hm3 : decide (mo < k) = true := decide_eq_true hm2
      go_enter Tryz.func91, Tryz.ntmps91
      go_wp2_with (go_at_call 130; refine (HZ.out _).mono ?_; rintro e w' ⟨rfl, rfl⟩)
      go_loopw [9, 27] (fun o i wr => ∃ (n : Nat) (ys : List Int), n ≤ mo ∧ ys.length = n ∧ (∀ y, y ∈ ys → y ∈ ids) ∧ i = .int .i64 n ∧ Own wr (New w) 3 1 o n (ys.map (Value.int .i64)) ∧ Chg No w wr) (fun _ i _ => mo - (intOf i).toNat)
      case atStart => exact ⟨0, [], Nat.zero_le _, rfl, (fun _ h => nomatch h), rfl, Own.nil _ _ _ _, Chg.refl _ _⟩
      case round =>
        obtain ⟨n, ys, hk, hys, hin, rfl, ho, hc⟩ := hrel
        by_cases hlt : n < mo
        · obtain ⟨g, o, rfl, hS, hg, hcap, hmax⟩ := HO.out.some_ (by omega)
          obtain ⟨a, ha⟩ : ∃ a, r % (ids.length : Int) = a := ⟨_, rfl⟩
          have a0 : 0 ≤ a := by rw [← ha]; exact Int.emod_nonneg _ (by omega)
          have a1 : a < ids.length := by rw [← ha]; exact Int.emod_lt_of_pos _ (by omega)
          obtain ⟨p, hp⟩ : ∃ p, a * (mo : Int) = p := ⟨_, rfl⟩
          have p0 : 0 ≤ p := by rw [← hp]; exact Int.mul_nonneg a0 (by omega)
          have p1 : p ≤ 4000 := by
            rw [← hp]
            have h1 : a * (mo : Int) ≤ 200 * mo := Int.mul_le_mul_of_nonneg_right (by omega) (by omega)
            omega
          obtain ⟨j, hj⟩ : ∃ j : Nat, (p + (n : Int)) % (ids.length : Int) = j := ⟨((p + (n : Int)) % (ids.length : Int)).toNat, (Int.toNat_of_nonneg (Int.emod_nonneg _ (by omega))).symm⟩
          have j1 : j < ids.length := by
            have := Int.emod_lt_of_pos (p + (n : Int)) (b := (ids.length : Int)) (by omega)
            omega
          obtain ⟨x, hx⟩ : ∃ x, ids[j]? = some x := ⟨ids[j], List.getElem?_eq_getElem j1⟩
          have hc0 : wr.cell? ⟨g, o + j, none⟩ = some (.int .i64 x) := by
            rw [(HO.out.kept hc).cellAt j (by omega), List.getElem?_map, hx]
            rfl
          have HX : Hid (x ∈ ids) := List.mem_of_getElem? hx
          have hz : ¬ (ids.length : Int) = 0 := by omega
          have e2 : wrap64 (a * (mo : Int)) = p := by rw [hp]; unfold wrap64; omega
          have e3 : (p + (n : Int)).tmod (ids.length : Int) = j := by rw [Int.tmod_eq_emod_of_nonneg (by omega), hj]
          have HO2 := Lib.hid ho
          have HC := Lib.hid hc
          have HIN := Lib.hid hin
          clear hp hx ho hc hS hmax hin
          go_wp2_with (at_builtin; refine wpList_app _ rfl _ _ 76 rfl (New w) 3 i0 _ 1 8 Tryz.underlying76 hi hz0 hz1 hz2 rfl _ _ _ rfl (HO2.out.alloc _) ⟨wr.heap.size, 0, none⟩ 1 1 [.int .i64 x] rfl (by decide) rfl (built_at (by simp)) (by simp [Value.oneCell']) (by simp only [maxLen]; omega) (by omega) ?_; intro g2 o2 c2 w' ho' hc')
          go_roundw
          case rel =>
            obtain ⟨h1, h2⟩ := fresh_app HC.out ho' hc'
            refine ⟨n + 1, ys ++ [x], by omega, by simp [hys], fun y hy => ?_, by go_num, by rw [List.map_append]; exact h1, h2⟩
            rcases List.mem_append.1 hy with h | h
            · exact HIN.out y h
            · rw [List.mem_singleton.1 h]; exact HX.out
          case measure => simp [intOf]; omega
        · go_wp2
          go_ret
          exact ⟨_, ys, rfl, by omega, hin, by rw [hys]; exact ho, hc⟩
    · have hm3 : decide (mo < k) = false := decide_eq_false hm2
      go_enter Tryz.func91, Tryz.ntmps91
      go_wp2_with (go_at_call 130; refine (HZ.out _).mono ?_; rintro e w' ⟨rfl, rfl⟩)
      go_loopw [9, 27] (fun o i wr => ∃ (n : Nat) (ys : List Int), n ≤ k ∧ ys.length = n ∧ (∀ y, y ∈ ys → y ∈ ids) ∧ i = .int .i64 n ∧ Own wr (New w) 3 1 o n (ys.map (Value.int .i64)) ∧ Chg No w wr) (fun _ i _ => k - (intOf i).toNat)
      case atStart => exact ⟨0, [], Nat.zero_le _, rfl, (fun _ h => nomatch h), rfl, Own.nil _ _ _ _, Chg.refl _ _⟩
      case round =>
        obtain ⟨n, ys, hk, hys, hin, rfl, ho, hc⟩ := hrel
        by_cases hlt : n < k
        · obtain ⟨g, o, rfl, hS, hg, hcap, hmax⟩ := HO.out.some_ (by omega)
          obtain ⟨a, ha⟩ : ∃ a, r % (ids.length : Int) = a := ⟨_, rfl⟩
          have a0 : 0 ≤ a := by rw [← ha]; exact Int.emod_nonneg _ (by omega)
          have a1 : a < ids.length := by rw [← ha]; exact Int.emod_lt_of_pos _ (by omega)
          obtain ⟨p, hp⟩ : ∃ p, a * (k : Int) = p := ⟨_, rfl⟩
          have p0 : 0 ≤ p := by rw [← hp]; exact Int.mul_nonneg a0 (by omega)
          have p1 : p ≤ 4000 := by
            rw [← hp]
            have h1 : a * (k : Int) ≤ 200 * k := Int.mul_le_mul_of_nonneg_right (by omega) (by omega)
            omega
          obtain ⟨j, hj⟩ : ∃ j : Nat, (p + (n : Int)) % (ids.length : Int) = j := ⟨((p + (n : Int)) % (ids.length : Int)).toNat, (Int.toNat_of_nonneg (Int.emod_nonneg _ (by omega))).symm⟩
          have j1 : j < ids.length := by
            have := Int.emod_lt_of_pos (p + (n : Int)) (b := (ids.length : Int)) (by omega)
            omega
          obtain ⟨x, hx⟩ : ∃ x, ids[j]? = some x := ⟨ids[j], List.getElem?_eq_getElem j1⟩
          have hc0 : wr.cell? ⟨g, o + j, none⟩ = some (.int .i64 x) := by
            rw [(HO.out.kept hc).cellAt j (by omega), List.getElem?_map, hx]
            rfl
          have HX : Hid (x ∈ ids) := List.mem_of_getElem? hx
          have hz : ¬ (ids.length : Int) = 0 := by omega
          have e2 : wrap64 (a * (k : Int)) = p := by rw [hp]; unfold wrap64; omega
          have e3 : (p + (n : Int)).tmod (ids.length : Int) = j := by rw [Int.tmod_eq_emod_of_nonneg (by omega), hj]
          have HO2 := Lib.hid ho
          have HC := Lib.hid hc
          have HIN := Lib.hid hin
          clear hp hx ho hc hS hmax hin
          go_wp2_with (at_builtin; refine wpList_app _ rfl _ _ 76 rfl (New w) 3 i0 _ 1 8 Tryz.underlying76 hi hz0 hz1 hz2 rfl _ _ _ rfl (HO2.out.alloc _) ⟨wr.heap.size, 0, none⟩ 1 1 [.int .i64 x] rfl (by decide) rfl (built_at (by simp)) (by simp [Value.oneCell']) (by simp only [maxLen]; omega) (by omega) ?_; intro g2 o2 c2 w' ho' hc')
          go_roundw
          case rel =>
            obtain ⟨h1, h2⟩ := fresh_app HC.out ho' hc'
            refine ⟨n + 1, ys ++ [x], by omega, by simp [hys], fun y hy => ?_, by go_num, by rw [List.map_append]; exact h1, h2⟩
            rcases List.mem_append.1 hy with h | h
            · exact HIN.out y h
            · rw [List.mem_singleton.1 h]; exact HX.out
          case measure => simp [intOf]; omega
        · go_wp2
          go_ret
          exact ⟨_, ys, rfl, by omega, hin, by rw [hys]; exact ho, hc⟩
  · obtain rfl : mo = 0 := by omega
    go_enter Tryz.func91, Tryz.ntmps91
    go_wp2_with (go_at_call 130; refine (HZ.out _).mono ?_; rintro e w' ⟨rfl, rfl⟩)
    go_loopw [9, 27] (fun o i wr => ∃ (n : Nat) (ys : List Int), n ≤ k ∧ ys.length = n ∧ (∀ y, y ∈ ys → y ∈ ids) ∧ i = .int .i64 n ∧ Own wr (New w) 3 1 o n (ys.map (Value.int .i64)) ∧ Chg No w wr) (fun _ i _ => k - (intOf i).toNat)
    case atStart => exact ⟨0, [], Nat.zero_le _, rfl, (fun _ h => nomatch h), rfl, Own.nil _ _ _ _, Chg.refl _ _⟩
    case round =>
      obtain ⟨n, ys, hk, hys, hin, rfl, ho, hc⟩ := hrel
      by_cases hlt : n < k
      · obtain ⟨g, o, rfl, hS, hg, hcap, hmax⟩ := HO.out.some_ (by omega)
        obtain ⟨a, ha⟩ : ∃ a, r % (ids.length : Int) = a := ⟨_, rfl⟩
        have a0 : 0 ≤ a := by rw [← ha]; exact Int.emod_nonneg _ (by omega)
        have a1 : a < ids.length := by rw [← ha]; exact Int.emod_lt_of_pos _ (by omega)
        obtain ⟨p, hp⟩ : ∃ p, a * (k : Int) = p := ⟨_, rfl⟩
        have p0 : 0 ≤ p := by rw [← hp]; exact Int.mul_nonneg a0 (by omega)
        have p1 : p ≤ 4000 := by
          rw [← hp]
          have h1 : a * (k : Int) ≤ 200 * k := Int.mul_le_mul_of_nonneg_right (by omega) (by omega)
          omega
        obtain ⟨j, hj⟩ : ∃ j : Nat, (p + (n : Int)) % (ids.length : Int) = j := ⟨((p + (n : Int)) % (ids.length : Int)).toNat, (Int.toNat_of_nonneg (Int.emod_nonneg _ (by omega))).symm⟩
        have j1 : j < ids.length := by
          have := Int.emod_lt_of_pos (p + (n : Int)) (b := (ids.length : Int)) (by omega)
          omega
        obtain ⟨x, hx⟩ : ∃ x, ids[j]? = some x := ⟨ids[j], List.getElem?_eq_getElem j1⟩
        have hc0 : wr.cell? ⟨g, o + j, none⟩ = some (.int .i64 x) := by
          rw [(HO.out.kept hc).cellAt j (by omega), List.getElem?_map, hx]
          rfl
        have HX : Hid (x ∈ ids) := List.mem_of_getElem? hx
        have hz : ¬ (ids.length : Int) = 0 := by omega
        have e2 : wrap64 (a * (k : Int)) = p := by rw [hp]; unfold wrap64; omega
        have e3 : (p + (n : Int)).tmod (ids.length : Int) = j := by rw [Int.tmod_eq_emod_of_nonneg (by omega), hj]
        have HO2 := Lib.hid ho
        have HC := Lib.hid hc
        have HIN := Lib.hid hin
        clear hp hx ho hc hS hmax hin
        go_wp2_with (at_builtin; refine wpList_app _ rfl _ _ 76 rfl (New w) 3 i0 _ 1 8 Tryz.underlying76 hi hz0 hz1 hz2 rfl _ _ _ rfl (HO2.out.alloc _) ⟨wr.heap.size, 0, none⟩ 1 1 [.int .i64 x] rfl (by decide) rfl (built_at (by simp)) (by simp [Value.oneCell']) (by simp only [maxLen]; omega) (by omega) ?_; intro g2 o2 c2 w' ho' hc')
        go_roundw
        case rel =>
          obtain ⟨h1, h2⟩ := fresh_app HC.out ho' hc'
          refine ⟨n + 1, ys ++ [x], by omega, by simp [hys], fun y hy => ?_, by go_num, by rw [List.map_append]; exact h1, h2⟩
          rcases List.mem_append.1 hy with h | h
          · exact HIN.out y h
          · rw [List.mem_singleton.1 h]; exact HX.out
        case measure => simp [intOf]; omega
      · go_wp2
        go_ret
        exact ⟨_, ys, rfl, by omega, hin, by rw [hys]; exact ho, hc⟩
end Go.Proofs.YtdgphoemjeakaaaGreatDoor.S
