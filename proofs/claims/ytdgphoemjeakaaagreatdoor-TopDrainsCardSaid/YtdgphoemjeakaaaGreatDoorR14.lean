/- Whatever the settings: want, rate, burst, zero. Whatever the settings: want.Over, rate, alarm, zero, burst. -/
import Derived.Test.YtdgphoemjeakaaaGreatDoorR09
namespace Go.Proofs.YtdgphoemjeakaaaGreatDoor.Wk
open P
open Go.RowKit K Mg
set_option maxRecDepth 100000
set_option maxHeartbeats 4000000 in
theorem div_w (n : Int) (w : World) (h0 : 0 ≤ n) (h1 : n ≤ 1000000000) : Calls Tryz.prog 195 #[.int .u64 0, .int .u64 n, .int .u64 1000] w fun e w' => ∃ q r : Int, 0 ≤ q ∧ q ≤ n ∧ e = .returned (.tuple #[.int .u64 q, .int .u64 r]) ∧ Chg No w w' := by
  have e1 : IntKind.u64.wrap (n.tdiv 1000) = n / 1000 := by
    rw [Int.tdiv_eq_ediv_of_nonneg h0]
    simp [IntKind.wrap, IntKind.bits, IntKind.signed]
    omega
  have e2 : IntKind.u64.wrap (n.tmod 1000) = n % 1000 := by
    rw [Int.tmod_eq_emod_of_nonneg h0]
    simp [IntKind.wrap, IntKind.bits, IntKind.signed]
    omega
  go_enter Tryz.func195, Tryz.ntmps195
  go_wp2
  go_quiet (fail)
  go_wp2
  go_ret2
  exact ⟨n / 1000, n % 1000, by omega, by omega, by first | rfl | simp [e1, e2], (Chg.refl _ _).drewN _⟩
set_option maxHeartbeats 4000000 in
theorem per_w (v : Nat → Int) (hv : mayB v = true) (w : World) : Calls Tryz.prog 135 #[.agg (cf v)] w fun e w' => ∃ x : Int, x ≠ 0 ∧ e = .returned (.int .i64 x) ∧ Chg No w w' := by
  obtain ⟨⟨a0, a1⟩, ⟨b0, b1⟩, -⟩ := may_bd hv
  have hB := Blk.new w (cf v) 24
  have c0 : (w.alloc (.cells (cf v) 24)).cell? ⟨w.heap.size, 0, none⟩ = some (.int .i64 (v 0)) := hB.cell 0
  have c1 : (w.alloc (.cells (cf v) 24)).cell? ⟨w.heap.size, 1, none⟩ = some (.int .i64 (v 1)) := hB.cell 1
  have HM : Hid (∀ w, Calls Tryz.prog 165 #[.int .i64 (v 0), .int .i64 (v 1)] w (Duo w)) := by
    intro w
    generalize v 0 = a at *
    generalize v 1 = b at *
    have hm0 : 0 ≤ a * b := Int.mul_nonneg (by omega) (by omega)
    have hm1 : a * b ≤ 1000000 * 1000 := Int.mul_le_mul a1 b1 (by omega) (by omega)
    obtain ⟨p, hp⟩ : ∃ p, a * b = p := ⟨_, rfl⟩
    have HU := Lib.hid fun w => S.mul64_small a b w (by omega) (by omega) (by omega) (by omega)
    rw [hp] at HU hm0 hm1
    clear hB c0 c1 hp
    have ka : decide (a < 0) = false := decide_eq_false (by omega)
    have kb : decide (b < 0) = false := decide_eq_false (by omega)
    go_enter Tryz.func165, Tryz.ntmps165
    go_wp2_with fail
    refine (far_per a _ (by omega) (by omega)).mono ?_
    rintro e w' ⟨rfl, rfl⟩
    go_wp2_with fail
    refine (far_per b _ (by omega) (by omega)).mono ?_
    rintro e w' ⟨rfl, rfl⟩
    go_wp2_with fail
    refine (HU.out _).mono ?_
    rintro e w' ⟨rfl, rfl⟩
    go_wp2_with fail
    refine (div_w p _ hm0 (by omega)).mono ?_
    rintro e w' ⟨q, r, q0, q1, rfl, hc⟩
    have HC := Lib.hid hc
    clear hc
    have k3 : decide (9223372036854775807 < q) = false := decide_eq_false (by omega)
    go_wp2_with fail
    go_ret2
    exact ⟨_, _, rfl, HC.out⟩
  clear hB
  go_enter Tryz.func135, Tryz.ntmps135
  go_wp2_with fail
  refine (HM.out _).mono ?_
  rintro e w' ⟨x, c, rfl, hc⟩
  have HC := Lib.hid (((Chg.refl No w).alloc (.cells (cf v) 24)).trans hc)
  clear hc
  by_cases hx : x < 1
  all_goals
    go_wp2
    go_ret
    exact ⟨_, by omega, rfl, HC.out⟩
def mostV (v : Nat → Int) : Int := if v 9 = 0 then 100 else v 9
set_option maxHeartbeats 4000000 in
theorem most_w (v : Nat → Int) (w : World) : Calls Tryz.prog 66 #[.agg (cf v)] w fun e w' => e = .returned (.int .i64 (mostV v)) ∧ Chg No w w' := by
  have hB := Blk.new w (cf v) 24
  have c9 : (w.alloc (.cells (cf v) 24)).cell? ⟨w.heap.size, 9, none⟩ = some (.int .i64 (v 9)) := hB.cell 9
  clear hB
  unfold mostV
  by_cases h : v 9 = 0
  · rw [if_pos h]
    go_enter Tryz.func66, Tryz.ntmps66
    go_wp2
    go_ret
    exact ⟨rfl, (Chg.refl No w).alloc _⟩
  · rw [if_neg h]
    go_enter Tryz.func66, Tryz.ntmps66
    go_wp2
    go_ret
    exact ⟨rfl, (Chg.refl No w).alloc _⟩
set_option maxHeartbeats 4000000 in
theorem want_w (v : Nat → Int) (hv : mayB v = true) (mean : Int) (w : World) : Calls Tryz.prog 95 #[.agg (cf v), .int .i64 mean] w (Uno w) := by
  have HV := Lib.hid hv
  clear hv
  go_enter Tryz.func95, Tryz.ntmps95
  go_wp2_with fail
  refine (may_any v _).mono ?_
  rintro e w1 ⟨rfl, hc⟩
  rw [HV.out]
  have hB := (Blk.new w (cf v) 24).kept hc
  have hr := rowOf_blk hB
  rw [cf_size] at hr
  have HC := Lib.hid (((Chg.refl No w).alloc _).trans hc)
  clear hB hc
  go_wp2_with fail
  refine (per_w v HV.out _).mono ?_
  rintro e w2 ⟨x, hx, rfl, hc⟩
  have HC2 := Lib.hid (HC.out.trans hc)
  clear hc hr
  go_wp2_with fail
  refine (up_w _ _ _ hx).mono ?_
  rintro e w3 ⟨y, c, rfl, hc⟩
  have HC3 := Lib.hid (HC2.out.trans hc)
  clear hc
  go_wp2_with (go_at_call 136; refine (number_long _ _ _ (by omega)).mono ?_; rintro e w' ⟨rfl, rfl⟩)
  go_ret
  exact ⟨_, rfl, HC3.out⟩
end Go.Proofs.YtdgphoemjeakaaaGreatDoor.Wk
namespace Go.Proofs.YtdgphoemjeakaaaGreatDoor.Wk
open P
open Go.RowKit K Mg
set_option maxRecDepth 100000
theorem cell_cf {w : World} {B : Nat} {v : Nat → Int} (h : Blk w B (cf v) 24) (j : Nat) : w.cell? ⟨B, j, none⟩ = (cf v)[j]? := h.cell j
theorem may_t (v : Nat → Int) (hv : mayB v = true) (w : World) : Calls Tryz.prog 16 #[.agg (cf v)] w fun e w' => e = .returned (.bool true) ∧ Chg No w w' := by
  rw [← hv]
  exact may_any v w
def Kv (v : Nat → Int) (B j : Nat) (u : Value) (w1 w' : World) : Prop := Chg No w1 w' ∧ Blk w' B (cf v) 24 ∧ (cf v)[j]? = some u
theorem keepV {v : Nat → Int} {B j : Nat} {u : Value} {w1 w2 w3 : World} (hc : Chg No w2 w3) (h : Hid (Kv v B j u w1 w2) ∧ rowOf w2 B 0 20 = some (.agg (cf v)) ∧ w2.cell? ⟨B, j, none⟩ = some u) : Hid (Kv v B j u w1 w3) ∧ rowOf w3 B 0 20 = some (.agg (cf v)) ∧ w3.cell? ⟨B, j, none⟩ = some u := by
  obtain ⟨⟨h1, h2, h3⟩, _, _⟩ := h
  exact ⟨⟨h1.trans hc, h2.kept hc, h3⟩, rowOf_blk (h2.kept hc), (cell_cf (h2.kept hc) j).trans h3⟩
theorem startV {v : Nat → Int} {B j : Nat} {u : Value} {w1 : World} (h : Blk w1 B (cf v) 24) (hv : (cf v)[j]? = some u) : Hid (Kv v B j u w1 w1.drew) ∧ rowOf w1.drew B 0 20 = some (.agg (cf v)) ∧ w1.drew.cell? ⟨B, j, none⟩ = some u :=
  ⟨⟨(Chg.refl No w1).drew, h, hv⟩, rowOf_blk h, (cell_cf h j).trans hv⟩
@[local go_sem ↓] theorem ta_way2 (b : Bool) (w : World) : (Instr.typeAssert (.iface 4 (.bool b)) 20 4 true).run Tryz.prog w = .ok (.tuple #[.bool b, .bool true]) w := by kernel_rfl
theorem end_t (w : World) : Calls Tryz.prog 74 #[.iface 4 (.bool true)] w fun e w' => e = .returned (.tuple #[.int .i64 9223372036854775807, .int .i64 2]) ∧ w = w' := by
  go_enter Tryz.func74, Tryz.ntmps74
  go_wp2_with fail
  go_ret2
  exact ⟨rfl, rfl⟩
theorem end_f (w : World) : Calls Tryz.prog 74 #[.iface 4 (.bool false)] w fun e w' => e = .returned (.tuple #[.int .i64 (-9223372036854775808), .int .i64 2]) ∧ w = w' := by
  go_enter Tryz.func74, Tryz.ntmps74
  go_wp2_with fail
  go_ret2
  exact ⟨rfl, rfl⟩
def mostR (v : Nat → Int) (ready : Int) : Int := min (up (v 6 * max ready 1) 1000) 1000000
def leastR (v : Nat → Int) (ready : Int) : Int := 1000 * ready / v 7
def limV (v : Nat → Int) (want ready : Int) : Int := min (max want (leastR v ready)) (mostR v ready)
def nextM (v : Nat → Int) (since most now : Int) (over : Bool) : Int × Int := if over then (if 0 ≤ since then (now, most) else (now, 0)) else if 0 ≤ since ∧ v 2 ≤ now - since then (-1, 0) else (since, most)
def goV (v : Nat → Int) (since now mean waiting busy : Int) : Bool := v 8 == 0 && (mean == 0 && (waiting == 0 && (busy == 0 && (decide (0 ≤ since) && (decide (since ≤ now) && decide (v 11 ≤ now - since))))))
def wantV (v : Nat → Int) (since now want have_ mean waiting busy : Int) : Int := if 0 < want then want else if (have_ == 0 && waiting == 0) || goV v since now mean waiting busy then 0 else 1
set_option maxHeartbeats 4000000 in
theorem over_w (v : Nat → Int) (hv : mayB v = true) (want ready : Int) (w : World) : Calls Tryz.prog 97 #[.agg (cf v), .int .i64 want, .int .i64 ready] w fun e w' => ∃ x : Bool, e = .returned (.bool x) ∧ Chg No w w' := by
  have HM := Lib.hid (may_t v hv)
  clear hv
  obtain ⟨a, ha⟩ : ∃ a, max 0 (min want 1000000) = a := ⟨_, rfl⟩
  obtain ⟨b, hb⟩ : ∃ b, max 1 (min ready 1000000) = b := ⟨_, rfl⟩
  have a0 : 0 ≤ a := by omega
  have a1 : a ≤ 1000000 := by omega
  have b0 : 1 ≤ b := by omega
  have b1 : b ≤ 1000000 := by omega
  go_enter Tryz.func97, Tryz.ntmps97
  go_wp2_with fail
  have hB : Blk (w.alloc (.cells (cf v) 24)) w.heap.size (cf v) 24 := Blk.new _ _ _
  have HC : Hid (Chg No w (w.alloc (.cells (cf v) 24))) := (Chg.refl No w).alloc _
  generalize w.alloc (.cells (cf v) 24) = w1 at *
  generalize w.heap.size = B at *
  have hr := rowOf_blk hB
  rw [cf_size] at hr
  have c5 : w1.cell? ⟨B, 5, none⟩ = some (.int .i64 (v 5)) := cell_cf hB 5
  have hS := startV hB (j := 5) rfl
  go_region_held3 (fun w' => Hid (Kv v B 5 (.int .i64 (v 5)) w1 w') ∧ rowOf w' B 0 20 = some (.agg (cf v)) ∧ w'.cell? ⟨B, 5, none⟩ = some (.int .i64 (v 5))) (first | exact hS | assumption | exact keepV hc (by assumption)) (first | (go_at_call 16; refine (HM.out _).mono ?_; rintro e w2 ⟨rfl, hc⟩) | (go_at_call 136; refine (number_int _ _ _ (by omega)).mono ?_; rintro e w' ⟨rfl, rfl⟩))
  all_goals
    go_wp2
    go_ret
    exact ⟨_, rfl, HC.out.trans (((Chg.refl No w1).drew).trans hc)⟩
set_option maxHeartbeats 4000000 in
theorem rmost_w (v : Nat → Int) (hv : mayB v = true) (ready : Int) (w : World) (r0 : 0 ≤ ready) (r1 : ready ≤ 1000) : Calls Tryz.prog 138 #[.agg (cf v), .int .i64 ready] w fun e w' => e = .returned (.int .i64 (mostR v ready)) ∧ Chg No w w' := by
  have HM := Lib.hid (may_t v hv)
  obtain ⟨-, -, -, -, -, ⟨b0, b1⟩, -⟩ := may_bd hv
  clear hv
  obtain ⟨m, hm⟩ : ∃ m, max ready 1 = m := ⟨_, rfl⟩
  have m0 : 1 ≤ m := by omega
  have m1 : m ≤ 1000 := by omega
  obtain ⟨p, hp⟩ : ∃ p, v 6 * m = p := ⟨_, rfl⟩
  have p0 : 0 ≤ p := by rw [← hp]; exact Int.mul_nonneg (by omega) (by omega)
  have p1 : p ≤ 1000000 * 1000 := by rw [← hp]; exact Int.mul_le_mul (by omega) m1 (by omega) (by omega)
  have HU := Lib.hid fun w => up_nn p 1000 w (by omega) (by omega) (by omega) (by omega)
  have HE : Hid (mostR v ready = min (up p 1000) 1000000) := by show _ = _; unfold mostR; rw [hm, hp]
  have HT := Lib.hid fun w => there_any ready 1 w r0 r1 (by omega)
  rw [hm] at HT
  obtain ⟨u, hu⟩ : ∃ u, up p 1000 = u := ⟨_, rfl⟩
  rw [hu] at HU HE
  have w1' : IntKind.i64.wrap (v 6 * m) = p := by rw [hp, IntKind.wrap_i64]; omega
  clear hm hp hu
  go_enter Tryz.func138, Tryz.ntmps138
  go_wp2_with fail
  refine (HM.out _).mono ?_
  rintro e w1 ⟨rfl, hc⟩
  have hB := (Blk.new w (cf v) 24).kept hc
  have c6 : w1.cell? ⟨w.heap.size, 6, none⟩ = some (.int .i64 (v 6)) := cell_cf hB 6
  have HC := Lib.hid (((Chg.refl No w).alloc _).trans hc)
  clear hB hc
  go_wp2_with fail
  go_quiet (first | (go_at_call 168; with_reducible exact quiet_left (HT.out _)) | (go_at_call 134; with_reducible exact quiet_left (HU.out _)))
  go_wp2
  all_goals
    go_ret
    exact ⟨by rw [HE.out]; exact ret_int (by omega), HC.out.drewN _⟩
set_option maxHeartbeats 4000000 in
theorem rleast_w (v : Nat → Int) (hv : mayB v = true) (ready : Int) (w : World) (r0 : 0 ≤ ready) (r1 : ready ≤ 1000) : Calls Tryz.prog 137 #[.agg (cf v), .int .i64 ready] w fun e w' => e = .returned (.int .i64 (leastR v ready)) ∧ Chg No w w' := by
  have HM := Lib.hid (may_t v hv)
  obtain ⟨-, -, -, -, -, -, ⟨b0, b1⟩, -⟩ := may_bd hv
  clear hv
  have HU := Lib.hid fun w => down_nn (1000 * ready) (v 7) w (by omega) (by omega) (by omega) (by omega)
  have HT := Lib.hid fun w => there_any ready 0 w r0 r1 (by omega)
  rw [show max ready 0 = ready by omega] at HT
  have w1' : IntKind.i64.wrap (1000 * ready) = 1000 * ready := by rw [IntKind.wrap_i64]; omega
  go_enter Tryz.func137, Tryz.ntmps137
  go_wp2_with fail
  refine (HM.out _).mono ?_
  rintro e w1 ⟨rfl, hc⟩
  have hB := (Blk.new w (cf v) 24).kept hc
  have c7 : w1.cell? ⟨w.heap.size, 7, none⟩ = some (.int .i64 (v 7)) := cell_cf hB 7
  have HC := Lib.hid (((Chg.refl No w).alloc _).trans hc)
  clear hB hc
  go_wp2_with fail
  go_quiet (first | (go_at_call 168; with_reducible exact quiet_left (HT.out _)) | (go_at_call 167; with_reducible exact quiet_left (HU.out _)))
  go_wp2
  go_ret
  exact ⟨rfl, HC.out.drewN _⟩
set_option maxHeartbeats 4000000 in
theorem limit_w (v : Nat → Int) (hv : mayB v = true) (want ready : Int) (w : World) (r0 : 0 ≤ ready) (r1 : ready ≤ 1000) : Calls Tryz.prog 98 #[.agg (cf v), .int .i64 want, .int .i64 ready] w fun e w' => e = .returned (.int .i64 (limV v want ready)) ∧ Chg No w w' := by
  have HM := Lib.hid (may_t v hv)
  have HX := Lib.hid fun w => rmost_w v hv ready w r0 r1
  have HL := Lib.hid fun w => rleast_w v hv ready w r0 r1
  clear hv
  have HE : Hid (limV v want ready = min (max want (leastR v ready)) (mostR v ready)) := by show _ = _; rfl
  obtain ⟨m, hm⟩ : ∃ m, mostR v ready = m := ⟨_, rfl⟩
  obtain ⟨lf, hh⟩ : ∃ h, leastR v ready = h := ⟨_, rfl⟩
  rw [hm] at HX HE
  rw [hh] at HL HE
  clear hm hh
  go_enter Tryz.func98, Tryz.ntmps98
  go_wp2_with fail
  refine (HM.out _).mono ?_
  rintro e w1 ⟨rfl, hc⟩
  have hB := (Blk.new w (cf v) 24).kept hc
  have HC := Lib.hid (((Chg.refl No w).alloc _).trans hc)
  have hr := rowOf_blk hB
  rw [cf_size] at hr
  clear hc
  go_wp2_with fail
  have hS := startV hB (j := 0) rfl
  by_cases h1 : want < lf
  · by_cases h2 : m < lf
    all_goals
      go_region_held3 (fun w' => Hid (Kv v w.heap.size 0 (.int .i64 (v 0)) w1 w') ∧ rowOf w' w.heap.size 0 20 = some (.agg (cf v)) ∧ w'.cell? ⟨w.heap.size, 0, none⟩ = some (.int .i64 (v 0))) (first | exact hS | assumption | exact keepV hc (by assumption)) (first | (go_at_call 137; refine (HL.out _).mono ?_; rintro e w2 ⟨rfl, hc⟩) | (go_at_call 138; refine (HX.out _).mono ?_; rintro e w3 ⟨rfl, hc2⟩; have hc1 := hc; clear hc; have hc := hc2))
      all_goals
        go_wp2
        all_goals
          go_ret
          refine ⟨by rw [HE.out]; exact ret_int (by omega), HC.out.trans ?_⟩
          exact (((Chg.refl No w1).drew).trans hc1).trans hc2
  · by_cases h2 : m < want
    all_goals
      go_region_held3 (fun w' => Hid (Kv v w.heap.size 0 (.int .i64 (v 0)) w1 w') ∧ rowOf w' w.heap.size 0 20 = some (.agg (cf v)) ∧ w'.cell? ⟨w.heap.size, 0, none⟩ = some (.int .i64 (v 0))) (first | exact hS | assumption | exact keepV hc (by assumption)) (first | (go_at_call 137; refine (HL.out _).mono ?_; rintro e w2 ⟨rfl, hc⟩) | (go_at_call 138; refine (HX.out _).mono ?_; rintro e w3 ⟨rfl, hc2⟩; have hc1 := hc; clear hc; have hc := hc2))
      all_goals
        go_wp2
        all_goals
          go_ret
          refine ⟨by rw [HE.out]; exact ret_int (by omega), HC.out.trans ?_⟩
          exact (((Chg.refl No w1).drew).trans hc1).trans hc2
set_option maxHeartbeats 4000000 in
theorem mode_w (v : Nat → Int) (hv : mayB v = true) (since most now : Int) (over : Bool) (w : World) (n0 : 0 ≤ now) (n1 : now ≤ 1099511627776) (s0 : -1 ≤ since) (s1 : since ≤ 1099511627776) :
    Calls Tryz.prog 96 #[.agg (cf v), .agg #[.int .i64 since, .int .i64 most], .int .i64 now, .bool over] w fun e w' => e = .returned (.agg #[.int .i64 (nextM v since most now over).1, .int .i64 (nextM v since most now over).2]) ∧ Chg No w w' := by
  have HM := Lib.hid (may_t v hv)
  have HI := Lib.hid fun w => is_any since most w
  clear hv
  have k1 : decide (now < 0) = false := decide_eq_false (by omega)
  have k2 : decide (1099511627776 < now) = false := decide_eq_false (by omega)
  obtain ⟨d, hd⟩ : ∃ d, decide (0 ≤ since) = d := ⟨_, rfl⟩
  obtain ⟨x, hx⟩ : ∃ x, decide (v 2 ≤ now - since) = x := ⟨_, rfl⟩
  have HE : Hid (nextM v since most now over = if over then (if d then (now, most) else (now, 0)) else if d && x then (-1, 0) else (since, most)) := by
    show _ = _
    unfold nextM
    rw [← hd, ← hx]
    by_cases a : 0 ≤ since <;> by_cases b : v 2 ≤ now - since <;> simp [a, b]
  rw [hd] at HI
  clear hd
  have hr0 : rowOf (((w.alloc (.cells (cf v) 24)).alloc (.cells #[.int .i64 since, .int .i64 most] 91)).alloc (.cells #[.int .i64 0, .int .i64 0] 91)) w.heap.size 0 20 = some (.agg (cf v)) := rowOf_blk (((Blk.new w (cf v) 24).alloc _).alloc _)
  go_enter Tryz.func96, Tryz.ntmps96
  go_wp2_with fail
  refine (HM.out _).mono ?_
  rintro e w1 ⟨rfl, hc⟩
  have hN := (Blk.new w (cf v) 24)
  have hA := ((hN.alloc (.cells #[.int .i64 since, .int .i64 most] 91)).alloc (.cells #[.int .i64 0, .int .i64 0] 91)).kept hc
  obtain ⟨hM, hR, hC⟩ := two_new hc
  have e1 : (w.alloc (.cells (cf v) 24)).heap.size = w.heap.size + 1 := by simp
  rw [e1] at hM hR
  have HA := Lib.hid hA
  have HC := Lib.hid (((Chg.refl No w).alloc _).trans hC)
  clear hN hA hC hc hr0 e1
  generalize hB0 : w.heap.size = B at *
  have HB0 := Lib.hid hB0
  clear hB0
  cases over
  · -- no alarm
    have m0 : w1.cell? ⟨B + 1, 0, none⟩ = some (.int .i64 since) := Blk.cell hM 0
    have m1 : w1.cell? ⟨B + 1, 1, none⟩ = some (.int .i64 most) := Blk.cell hM 1
    have HM2 := Lib.hid hM
    have HR := Lib.hid hR
    clear hM hR
    go_wp2_with fail
    refine (HI.out _).mono ?_
    rintro e w2 ⟨rfl, hc⟩
    have c2 : w2.cell? ⟨B, 2, none⟩ = some (.int .i64 (v 2)) := cell_cf (HA.out.kept hc) 2
    have m0 : w2.cell? ⟨B + 1, 0, none⟩ = some (.int .i64 since) := Blk.cell (HM2.out.kept hc) 0
    have m1 : w2.cell? ⟨B + 1, 1, none⟩ = some (.int .i64 most) := Blk.cell (HM2.out.kept hc) 1
    have r0 : w2.cell? ⟨B + 1 + 1, 0, none⟩ = some (.int .i64 0) := Blk.cell (HR.out.kept hc) 0
    have r1 : w2.cell? ⟨B + 1 + 1, 1, none⟩ = some (.int .i64 0) := Blk.cell (HR.out.kept hc) 1
    have g0 := Blk.free (HR.out.kept hc) 0
    have g1 := Blk.free (HR.out.kept hc) 1
    have HC2 := Lib.hid (HC.out.trans hc)
    have HR2 := Lib.hid (HR.out.kept hc)
    clear hc
    cases d <;> cases x
    case true.true =>
      go_wp2_with fail
      refine (calm_any _).mono ?_
      rintro e w3 ⟨rfl, hc⟩
      have r0 : w3.cell? ⟨B + 1 + 1, 0, none⟩ = some (.int .i64 0) := Blk.cell (HR2.out.kept hc) 0
      have r1 : w3.cell? ⟨B + 1 + 1, 1, none⟩ = some (.int .i64 0) := Blk.cell (HR2.out.kept hc) 1
      have g0 := Blk.free (HR2.out.kept hc) 0
      have g1 := Blk.free (HR2.out.kept hc) 1
      have HC3 := Lib.hid (HC2.out.trans hc)
      clear hc
      go_wp2
      try simp only [Exit.inBlock, Exit.then]
      refine bodyPost_ret (by simp [results, Tryz.results96, go_sem, r0, r1]; rfl) rfl ?_
      rw [HE.out]
      have hB := HB0.out
      exact ⟨rfl, (HC3.out.set_new (by omega) _).set_new (by omega) _⟩
    all_goals
      go_wp2
      try simp only [Exit.inBlock, Exit.then]
      refine bodyPost_ret (by simp [results, Tryz.results96, go_sem, r0, r1]; rfl) rfl ?_
      rw [HE.out]
      have hB := HB0.out
      exact ⟨rfl, (HC2.out.set_new (by omega) _).set_new (by omega) _⟩
  · have m0 : w1.cell? ⟨B + 1, 0, none⟩ = some (.int .i64 since) := Blk.cell hM 0
    have m1 : w1.cell? ⟨B + 1, 1, none⟩ = some (.int .i64 most) := Blk.cell hM 1
    have HM2 := Lib.hid hM
    have HR := Lib.hid hR
    clear hM hR
    go_wp2_with fail
    refine (HI.out _).mono ?_
    rintro e w2 ⟨rfl, hc⟩
    have m0 : w2.cell? ⟨B + 1, 0, none⟩ = some (.int .i64 since) := Blk.cell (HM2.out.kept hc) 0
    have m1 : w2.cell? ⟨B + 1, 1, none⟩ = some (.int .i64 most) := Blk.cell (HM2.out.kept hc) 1
    have f0 := Blk.free (HM2.out.kept hc) 0
    have r0 : w2.cell? ⟨B + 1 + 1, 0, none⟩ = some (.int .i64 0) := Blk.cell (HR.out.kept hc) 0
    have r1 : w2.cell? ⟨B + 1 + 1, 1, none⟩ = some (.int .i64 0) := Blk.cell (HR.out.kept hc) 1
    have g0 := Blk.free (HR.out.kept hc) 0
    have g1 := Blk.free (HR.out.kept hc) 1
    have HC2 := Lib.hid (HC.out.trans hc)
    clear hc
    cases d
    all_goals
      go_wp2
      try simp only [Exit.inBlock, Exit.then]
      refine bodyPost_ret (by simp [results, Tryz.results96, go_sem, r0, r1]; rfl) rfl ?_
      rw [HE.out]
      have hB := HB0.out
      first
      | exact ⟨rfl, (HC2.out.set_new (by omega) _).set_new (by omega) _⟩
      | exact ⟨rfl, ((HC2.out.set_new (by omega) _).set_new (by omega) _).set_new (by omega) _⟩
set_option maxHeartbeats 4000000 in
theorem zmay_w (v : Nat → Int) (hv : mayB v = true) (since now mean waiting busy : Int) (w : World) (n0 : 0 ≤ now) (n1 : now ≤ 1099511627776) (s0 : -1 ≤ since) (s1 : since ≤ 1099511627776) :
    Calls Tryz.prog 104 #[.agg (cf v), .agg #[.int .i64 since], .int .i64 now, .int .i64 mean, .int .i64 waiting, .int .i64 busy] w fun e w' => e = .returned (.bool (goV v since now mean waiting busy)) ∧ Chg No w w' := by
  have HM := Lib.hid (may_t v hv)
  have HS := Lib.hid fun w => since_any since w
  clear hv
  obtain ⟨x1, h1⟩ : ∃ x, (mean == 0) = x := ⟨_, rfl⟩
  obtain ⟨x2, h2⟩ : ∃ x, (waiting == 0) = x := ⟨_, rfl⟩
  obtain ⟨x3, h3⟩ : ∃ x, (busy == 0) = x := ⟨_, rfl⟩
  obtain ⟨x4, h4⟩ : ∃ x, decide (0 ≤ since) = x := ⟨_, rfl⟩
  obtain ⟨x5, h5⟩ : ∃ x, decide (since ≤ now) = x := ⟨_, rfl⟩
  obtain ⟨x6, h6⟩ : ∃ x, decide (v 11 ≤ now - since) = x := ⟨_, rfl⟩
  obtain ⟨x0, h0⟩ : ∃ x, (v 8 == 0) = x := ⟨_, rfl⟩
  have HE : Hid (goV v since now mean waiting busy = (x0 && (x1 && (x2 && (x3 && (x4 && (x5 && x6))))))) := by show _ = _; unfold goV; rw [h0, h1, h2, h3, h4, h5, h6]
  have hr0 : rowOf ((w.alloc (.cells (cf v) 24)).alloc (.cells #[.int .i64 since] 60)) w.heap.size 0 20 = some (.agg (cf v)) := rowOf_blk ((Blk.new w (cf v) 24).alloc _)
  go_enter Tryz.func104, Tryz.ntmps104
  go_wp2_with fail
  refine (HS.out _).mono ?_
  rintro e w1 ⟨rfl, hc⟩
  obtain ⟨hA, hM, hC⟩ := two_new hc
  have hr := rowOf_blk hA
  rw [cf_size] at hr
  have HA := Lib.hid hA
  have HC := Lib.hid hC
  clear hr0 hA hM hC hc
  go_wp2_with fail
  refine (HM.out _).mono ?_
  rintro e w2 ⟨rfl, hc⟩
  have c8 : w2.cell? ⟨w.heap.size, 8, none⟩ = some (.int .i64 (v 8)) := cell_cf (HA.out.kept hc) 8
  have c11 : w2.cell? ⟨w.heap.size, 11, none⟩ = some (.int .i64 (v 11)) := cell_cf (HA.out.kept hc) 11
  have HC2 := Lib.hid (HC.out.trans hc)
  clear hc hr
  cases x0
  · go_wp2
    go_ret
    exact ⟨by rw [HE.out]; rfl, HC2.out⟩
  cases x1
  · go_wp2
    go_ret
    exact ⟨by rw [HE.out]; rfl, HC2.out⟩
  cases x2
  · go_wp2
    go_ret
    exact ⟨by rw [HE.out]; rfl, HC2.out⟩
  cases x3
  · go_wp2
    go_ret
    exact ⟨by rw [HE.out]; rfl, HC2.out⟩
  cases x4
  · go_wp2
    go_ret
    exact ⟨by rw [HE.out]; rfl, HC2.out⟩
  cases x5
  · go_wp2
    go_ret
    exact ⟨by rw [HE.out]; rfl, HC2.out⟩
  cases x6
  all_goals
    go_wp2
    go_ret
    exact ⟨by rw [HE.out]; rfl, HC2.out⟩
set_option maxHeartbeats 4000000 in
theorem zwant_w (v : Nat → Int) (hv : mayB v = true) (since now want have_ mean waiting busy : Int) (w : World) (n0 : 0 ≤ now) (n1 : now ≤ 1099511627776) (s0 : -1 ≤ since) (s1 : since ≤ 1099511627776) :
    Calls Tryz.prog 65 #[.agg (cf v), .agg #[.int .i64 since], .int .i64 now, .int .i64 want, .int .i64 have_, .int .i64 mean, .int .i64 waiting, .int .i64 busy] w fun e w' => e = .returned (.int .i64 (wantV v since now want have_ mean waiting busy)) ∧ Chg No w w' := by
  have HM := Lib.hid fun w => zmay_w v hv since now mean waiting busy w n0 n1 s0 s1
  clear hv
  obtain ⟨x1, h1⟩ : ∃ x, decide (0 < want) = x := ⟨_, rfl⟩
  obtain ⟨x2, h2⟩ : ∃ x, (have_ == 0) = x := ⟨_, rfl⟩
  obtain ⟨x3, h3⟩ : ∃ x, (waiting == 0) = x := ⟨_, rfl⟩
  have HE : Hid (wantV v since now want have_ mean waiting busy = if x1 then want else if (x2 && x3) || goV v since now mean waiting busy then 0 else 1) := by
    show _ = _
    unfold wantV
    rw [← h1, h2, h3]
    simp
  have hr0 : rowOf ((w.alloc (.cells (cf v) 24)).alloc (.cells #[.int .i64 since] 60)) w.heap.size 0 20 = some (.agg (cf v)) := rowOf_blk ((Blk.new w (cf v) 24).alloc _)
  generalize goV v since now mean waiting busy = g at *
  have HC : Hid (Chg No w ((w.alloc (.cells (cf v) 24)).alloc (.cells #[.int .i64 since] 60))) := ((Chg.refl No w).alloc _).alloc _
  cases x1
  · cases x2 <;> cases x3
    case true.true =>
      go_enter Tryz.func65, Tryz.ntmps65
      go_wp2
      go_ret
      exact ⟨by rw [HE.out]; rfl, HC.out⟩
    all_goals
      cases g
      all_goals
        go_enter Tryz.func65, Tryz.ntmps65
        go_wp2_with fail
        refine (HM.out _).mono ?_
        rintro e w1 ⟨rfl, hc⟩
        have HC2 := Lib.hid (HC.out.trans hc)
        clear hc
        go_wp2
        go_ret
        exact ⟨by rw [HE.out]; rfl, HC2.out⟩
  · go_enter Tryz.func65, Tryz.ntmps65
    go_wp2
    go_ret
    exact ⟨by rw [HE.out]; rfl, HC.out⟩
set_option maxHeartbeats 1000000 in
theorem sub_f (a b : Int) : ∃ x c : Int, ∀ w, Calls Tryz.prog 47 #[.int .i64 a, .int .i64 b] w fun e w' => e = .returned (.tuple #[.int .i64 x, .int .i64 c]) ∧ w = w' := by
  by_cases h1 : b < 0
  · have k1 : decide (b < 0) = true := decide_eq_true h1
    have k2 : decide (0 < b) = false := decide_eq_false (by omega)
    by_cases h2 : wrap64 (9223372036854775807 + b) < a
    · have k3 : decide (wrap64 (9223372036854775807 + b) < a) = true := decide_eq_true h2
      refine ⟨9223372036854775807, 2, fun w => ?_⟩
      go_enter Tryz.func47, Tryz.ntmps47
      go_wp2_with fail
      refine (end_t _).mono ?_
      rintro e w1 ⟨rfl, rfl⟩
      go_wp2_with fail
      go_ret2
      exact ⟨rfl, rfl⟩
    · have k3 : decide (wrap64 (9223372036854775807 + b) < a) = false := decide_eq_false h2
      refine ⟨wrap64 (a - b), 0, fun w => ?_⟩
      go_enter Tryz.func47, Tryz.ntmps47
      go_wp2_with fail
      go_ret2
      exact ⟨rfl, rfl⟩
  · have k1 : decide (b < 0) = false := decide_eq_false h1
    by_cases h3 : 0 < b
    · have k2 : decide (0 < b) = true := decide_eq_true h3
      by_cases h2 : a < wrap64 (-9223372036854775808 + b)
      · have k3 : decide (a < wrap64 (-9223372036854775808 + b)) = true := decide_eq_true h2
        refine ⟨-9223372036854775808, 2, fun w => ?_⟩
        go_enter Tryz.func47, Tryz.ntmps47
        go_wp2_with fail
        refine (end_f _).mono ?_
        rintro e w1 ⟨rfl, rfl⟩
        go_wp2_with fail
        go_ret2
        exact ⟨rfl, rfl⟩
      · have k3 : decide (a < wrap64 (-9223372036854775808 + b)) = false := decide_eq_false h2
        refine ⟨wrap64 (a - b), 0, fun w => ?_⟩
        go_enter Tryz.func47, Tryz.ntmps47
        go_wp2_with fail
        go_ret2
        exact ⟨rfl, rfl⟩
    · have k2 : decide (0 < b) = false := decide_eq_false h3
      refine ⟨wrap64 (a - b), 0, fun w => ?_⟩
      go_enter Tryz.func47, Tryz.ntmps47
      go_wp2_with fail
      go_ret2
      exact ⟨rfl, rfl⟩
set_option maxHeartbeats 4000000 in
theorem excess_w (v : Nat → Int) (hv : mayB v = true) (ready quick : Int) (w : World) (r0 : 0 ≤ ready) (r1 : ready ≤ 1000) : Calls Tryz.prog 25 #[.agg (cf v), .int .i64 ready, .int .i64 quick] w (Uno w) := by
  have HM := Lib.hid (may_t v hv)
  obtain ⟨-, -, -, -, -, -, -, -, -, -, ⟨l0, l1⟩, -⟩ := may_bd hv
  clear hv
  have HT := Lib.hid fun w => there_burst ready w r0 r1
  obtain ⟨m, hm⟩ : ∃ m, ready * v 14 = m := ⟨_, rfl⟩
  have m0 : 0 ≤ m := by rw [← hm]; exact Int.mul_nonneg r0 (by omega)
  have m1 : m ≤ 1000000 := by
    rw [← hm]
    have h1 : ready * v 14 ≤ 1000 * 1000 := Int.mul_le_mul r1 l1 (by omega) (by omega)
    omega
  have w1' : IntKind.i64.wrap (ready * v 14) = m := by rw [hm, IntKind.wrap_i64]; omega
  obtain ⟨s1, c1, hs1⟩ := sub_f (m * 1000) quick
  obtain ⟨s2, c2, hs2⟩ := sub_f s1 (v 13)
  have HS1 := Lib.hid hs1
  have HS2 := Lib.hid hs2
  clear hm hs1 hs2
  obtain ⟨x1, h1⟩ : ∃ x, (v 13 == -1000) = x := ⟨_, rfl⟩
  go_enter Tryz.func25, Tryz.ntmps25
  go_wp2_with fail
  refine (HM.out _).mono ?_
  rintro e w1 ⟨rfl, hc⟩
  have hB := (Blk.new w (cf v) 24).kept hc
  have HB := Lib.hid hB
  have c13 : w1.cell? ⟨w.heap.size, 13, none⟩ = some (.int .i64 (v 13)) := cell_cf hB 13
  have c14 : w1.cell? ⟨w.heap.size, 14, none⟩ = some (.int .i64 (v 14)) := cell_cf hB 14
  have HC := Lib.hid (((Chg.refl No w).alloc _).trans hc)
  clear hB hc
  cases x1
  · go_wp2_with fail
    go_quiet (first | (go_at_call 48; with_reducible exact quiet_left (HT.out _)) | (go_at_call 47; with_reducible exact quiet_left (HS1.out _)))
    go_wp2_with (go_at_call 47; refine (HS2.out _).mono ?_; rintro e w' ⟨rfl, rfl⟩)
    go_ret
    exact ⟨_, rfl, HC.out.drewN _⟩
  · go_wp2
    go_ret
    exact ⟨_, rfl, HC.out⟩
set_option maxHeartbeats 4000000 in
theorem proxy_w (v : Nat → Int) (hv : mayB v = true) (ready ex : Int) (w : World) : Calls Tryz.prog 24 #[.agg (cf v), .int .i64 ready, .int .i64 ex] w fun e w' => e = .returned (.bool (proxy (v 13) ready ex)) ∧ Chg No w w' := by
  have HM := Lib.hid (may_t v hv)
  clear hv
  obtain ⟨x1, h1⟩ : ∃ x, (v 13 == -1000) = x := ⟨_, rfl⟩
  obtain ⟨x2, h2⟩ : ∃ x, decide (ready < 1) = x := ⟨_, rfl⟩
  obtain ⟨x3, h3⟩ : ∃ x, decide (0 < v 13) = x := ⟨_, rfl⟩
  obtain ⟨x4, h4⟩ : ∃ x, decide (ex < 0) = x := ⟨_, rfl⟩
  have HE : Hid (proxy (v 13) ready ex = (x1 || (x2 || (x3 && x4)))) := by show _ = _; unfold proxy; rw [h1, h2, h3, h4]
  go_enter Tryz.func24, Tryz.ntmps24
  go_wp2_with fail
  refine (HM.out _).mono ?_
  rintro e w1 ⟨rfl, hc⟩
  have hB := (Blk.new w (cf v) 24).kept hc
  have c13 : w1.cell? ⟨w.heap.size, 13, none⟩ = some (.int .i64 (v 13)) := cell_cf hB 13
  have HC := Lib.hid (((Chg.refl No w).alloc _).trans hc)
  clear hB hc
  cases x1 <;> cases x2 <;> cases x3 <;> cases x4
  all_goals
    go_wp2
    go_ret
    exact ⟨by rw [HE.out]; rfl, HC.out⟩
end Go.Proofs.YtdgphoemjeakaaaGreatDoor.Wk
