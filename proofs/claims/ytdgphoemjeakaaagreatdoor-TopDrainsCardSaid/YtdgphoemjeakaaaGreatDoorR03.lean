/- Packages want, rate: what their functions give. Package metric: New, of, Put, Means, Over. Package metric: of, Put, Means, Over. Package delay: what its methods do. -/
import Derived.Test.YtdgphoemjeakaaaGreatDoorR02
import Derived.Deep.RegionHeld3
import Derived.Test.YtdgphoemjeakaaaGreatDoorR01
import Derived.BigQuiet
import Derived.Handy
namespace Go.Proofs.YtdgphoemjeakaaaGreatDoor.P
open Go.RowKit K
set_option maxRecDepth 100000
set_option maxHeartbeats 4000000 in
theorem want_of (hm : Said.may) (bu ini li rd : Int) (ok : Ok bu ini li rd) (mean : Int) (w : World) (m0 : 0 ≤ mean) (m1 : mean ≤ 1152921504606846976) : Calls Tryz.prog 95 #[.agg (ca bu ini li rd), .int .i64 mean] w fun e w' => e = .returned (.int .i64 (wantOf mean)) ∧ Chg No w w' := by
  have HM := Lib.hid (hm bu ini li rd ok)
  have HP := Lib.hid (per_any bu ini li rd)
  clear hm ok
  have HU := Lib.hid fun w => up_nn mean 7000 w m0 (by omega) (by omega) (by omega)
  have HE : Hid (wantOf mean = max 0 (min (up mean 7000) 1000000)) := by
    show _ = _
    obtain ⟨u0, u1⟩ := up_bd (a := mean) (b := 7000) m0 (by omega)
    unfold wantOf
    omega
  go_enter Tryz.func95, Tryz.ntmps95
  go_wp2_with fail
  refine (HM.out _).mono ?_
  rintro e w1 ⟨rfl, hc⟩
  have hB := (Blk.new w (ca bu ini li rd) 24).kept hc
  have hr := rowOf_blk hB
  rw [ca_size] at hr
  have HC := Lib.hid (((Chg.refl No w).alloc _).trans hc)
  clear hB hc
  go_wp2_with fail
  refine (HP.out _).mono ?_
  rintro e w2 ⟨rfl, hc⟩
  have HC2 := Lib.hid (HC.out.trans hc)
  clear hc hr
  go_wp2_with fail
  refine (HU.out _).mono ?_
  rintro e w' ⟨rfl, rfl⟩
  go_wp2_with (go_at_call 136; refine (number_long _ _ _ (by omega)).mono ?_; rintro e w' ⟨rfl, rfl⟩)
  go_ret
  exact ⟨by rw [HE.out]; rfl, HC2.out⟩
theorem quiet_left {P : Program} {f : FuncId} {args : Array Value} {w : World} {n : Nat} {v : Value}
    (h : Calls P f args (w.drewN n) fun e w' => e = .returned v ∧ w.drewN n = w') : Calls P f args (w.drewN n) fun e w'' => e = .returned v ∧ ∃ m, w'' = w.drewN m :=
  h.mono fun _ _ ⟨he, hm⟩ => ⟨he, n, hm.symm⟩
theorem cell_ca {w : World} {B : Nat} {bu ini li rd : Int} (h : Blk w B (ca bu ini li rd) 24) (j : Nat) : w.cell? ⟨B, j, none⟩ = (ca bu ini li rd)[j]? := h.cell j
def Ks (bu ini li rd : Int) (B j : Nat) (v : Value) (w1 w' : World) : Prop := Chg No w1 w' ∧ Blk w' B (ca bu ini li rd) 24 ∧ (ca bu ini li rd)[j]? = some v
theorem keepS {bu ini li rd : Int} {B j : Nat} {v : Value} {w1 w2 w3 : World} (hc : Chg No w2 w3) (h : Hid (Ks bu ini li rd B j v w1 w2) ∧ rowOf w2 B 0 20 = some (.agg (ca bu ini li rd)) ∧ w2.cell? ⟨B, j, none⟩ = some v) : Hid (Ks bu ini li rd B j v w1 w3) ∧ rowOf w3 B 0 20 = some (.agg (ca bu ini li rd)) ∧ w3.cell? ⟨B, j, none⟩ = some v := by
  obtain ⟨⟨h1, h2, h3⟩, _, _⟩ := h
  exact ⟨⟨h1.trans hc, h2.kept hc, h3⟩, rowOf_blk (h2.kept hc), (cell_ca (h2.kept hc) j).trans h3⟩
theorem startS {bu ini li rd : Int} {B j : Nat} {v : Value} {w1 : World} (h : Blk w1 B (ca bu ini li rd) 24) (hv : (ca bu ini li rd)[j]? = some v) : Hid (Ks bu ini li rd B j v w1 w1.drew) ∧ rowOf w1.drew B 0 20 = some (.agg (ca bu ini li rd)) ∧ w1.drew.cell? ⟨B, j, none⟩ = some v :=
  ⟨⟨(Chg.refl No w1).drew, h, hv⟩, rowOf_blk h, (cell_ca h j).trans hv⟩
def over (want ready : Int) : Bool := decide (2000 * max 1 (min ready 1000000) ≤ max 0 (min want 1000000) * 1000)
set_option maxHeartbeats 4000000 in
theorem want_over (hm : Said.may) (bu ini li rd : Int) (ok : Ok bu ini li rd) (want ready : Int) (w : World) : Calls Tryz.prog 97 #[.agg (ca bu ini li rd), .int .i64 want, .int .i64 ready] w fun e w' => e = .returned (.bool (over want ready)) ∧ Chg No w w' := by
  have HM := Lib.hid (hm bu ini li rd ok)
  clear hm ok
  obtain ⟨a, ha⟩ : ∃ a, max 0 (min want 1000000) = a := ⟨_, rfl⟩
  obtain ⟨b, hb⟩ : ∃ b, max 1 (min ready 1000000) = b := ⟨_, rfl⟩
  have HE : Hid (over want ready = decide (2000 * b ≤ a * 1000)) := by show _ = _; unfold over; rw [ha, hb]
  have a0 : 0 ≤ a := by omega
  have a1 : a ≤ 1000000 := by omega
  have b0 : 1 ≤ b := by omega
  have b1 : b ≤ 1000000 := by omega
  go_enter Tryz.func97, Tryz.ntmps97
  go_wp2_with fail
  have hB : Blk (w.alloc (.cells (ca bu ini li rd) 24)) w.heap.size (ca bu ini li rd) 24 := Blk.new _ _ _
  have HC : Hid (Chg No w (w.alloc (.cells (ca bu ini li rd) 24))) := (Chg.refl No w).alloc _
  generalize w.alloc (.cells (ca bu ini li rd) 24) = w1 at *
  generalize w.heap.size = B at *
  have hr := rowOf_blk hB
  rw [ca_size] at hr
  have c5 : w1.cell? ⟨B, 5, none⟩ = some (.int .i64 2000) := cell_ca hB 5
  have hS := startS hB (j := 5) rfl
  go_region_held3 (fun w' => Hid (Ks bu ini li rd B 5 (.int .i64 2000) w1 w') ∧ rowOf w' B 0 20 = some (.agg (ca bu ini li rd)) ∧ w'.cell? ⟨B, 5, none⟩ = some (.int .i64 2000)) (first | exact hS | assumption | exact keepS hc (by assumption)) (first | (go_at_call 16; refine (HM.out _).mono ?_; rintro e w2 ⟨rfl, hc⟩) | (go_at_call 136; refine (number_int _ _ _ (by omega)).mono ?_; rintro e w' ⟨rfl, rfl⟩))
  all_goals
    go_wp2
    go_ret
    have e1 : IntKind.i64.wrap (2000 * b) = 2000 * b := by rw [IntKind.wrap_i64]; omega
    have e2 : IntKind.i64.wrap (a * 1000) = a * 1000 := by rw [IntKind.wrap_i64]; omega
    exact ⟨by rw [HE.out]; show Ending.returned (.bool (decide (IntKind.i64.wrap (2000 * b) ≤ IntKind.i64.wrap (a * 1000)))) = _; rw [e1, e2], HC.out.trans (((Chg.refl No w1).drew).trans hc)⟩
set_option maxHeartbeats 1000000 in
theorem there_any (n lo : Int) (w : World) (n0 : 0 ≤ n) (n1 : n ≤ 1000) (l1 : lo ≤ 1) : Calls Tryz.prog 168 #[.iface 3 (.int .i64 n), .int .i64 lo] w fun e w' => e = .returned (.int .i64 (max n lo)) ∧ w = w' := by
  go_enter Tryz.func168, Tryz.ntmps168
  go_wp2
  all_goals
    go_ret
    exact ⟨ret_int (by omega), rfl⟩
theorem up_most {m : Int} : up (10000 * m) 1000 = 10 * m := by
  unfold up
  rw [if_pos (by omega)]
  omega
theorem half_least {m : Int} : 1000 * m / 2000 = m / 2 := by omega
set_option maxHeartbeats 4000000 in
theorem rate_most (hm : Said.may) (bu ini li rd : Int) (ok : Ok bu ini li rd) (ready : Int) (w : World) (r0 : 0 ≤ ready) (r1 : ready ≤ 1000) : Calls Tryz.prog 138 #[.agg (ca bu ini li rd), .int .i64 ready] w fun e w' => e = .returned (.int .i64 (10 * max ready 1)) ∧ Chg No w w' := by
  have HM := Lib.hid (hm bu ini li rd ok)
  clear hm ok
  obtain ⟨m, hm⟩ : ∃ m, max ready 1 = m := ⟨_, rfl⟩
  have m0 : 1 ≤ m := by omega
  have m1 : m ≤ 1000 := by omega
  have HU := Lib.hid fun w => up_nn (10000 * m) 1000 w (by omega) (by omega) (by omega) (by omega)
  have HT := Lib.hid fun w => there_any ready 1 w r0 r1 (by omega)
  rw [hm] at HT ⊢
  rw [up_most] at HU
  have w1' : IntKind.i64.wrap (10000 * m) = 10000 * m := by rw [IntKind.wrap_i64]; omega
  clear hm
  go_enter Tryz.func138, Tryz.ntmps138
  go_wp2_with fail
  refine (HM.out _).mono ?_
  rintro e w1 ⟨rfl, hc⟩
  have hB := (Blk.new w (ca bu ini li rd) 24).kept hc
  have c6 : w1.cell? ⟨w.heap.size, 6, none⟩ = some (.int .i64 10000) := cell_ca hB 6
  have HC := Lib.hid (((Chg.refl No w).alloc _).trans hc)
  clear hB hc
  go_wp2_with fail
  go_quiet (first | (go_at_call 168; with_reducible exact quiet_left (HT.out _)) | (go_at_call 134; with_reducible exact quiet_left (HU.out _)))
  go_wp2
  all_goals
    go_ret
    exact ⟨ret_int (by omega), HC.out.drewN _⟩
set_option maxHeartbeats 4000000 in
theorem rate_least (hm : Said.may) (bu ini li rd : Int) (ok : Ok bu ini li rd) (ready : Int) (w : World) (r0 : 0 ≤ ready) (r1 : ready ≤ 1000) : Calls Tryz.prog 137 #[.agg (ca bu ini li rd), .int .i64 ready] w fun e w' => e = .returned (.int .i64 (ready / 2)) ∧ Chg No w w' := by
  have HM := Lib.hid (hm bu ini li rd ok)
  clear hm ok
  have HU := Lib.hid fun w => down_nn (1000 * ready) 2000 w (by omega) (by omega) (by omega) (by omega)
  have HT := Lib.hid fun w => there_any ready 0 w r0 r1 (by omega)
  rw [show max ready 0 = ready by omega] at HT
  rw [half_least] at HU
  have w1' : IntKind.i64.wrap (1000 * ready) = 1000 * ready := by rw [IntKind.wrap_i64]; omega
  go_enter Tryz.func137, Tryz.ntmps137
  go_wp2_with fail
  refine (HM.out _).mono ?_
  rintro e w1 ⟨rfl, hc⟩
  have hB := (Blk.new w (ca bu ini li rd) 24).kept hc
  have c7 : w1.cell? ⟨w.heap.size, 7, none⟩ = some (.int .i64 2000) := cell_ca hB 7
  have HC := Lib.hid (((Chg.refl No w).alloc _).trans hc)
  clear hB hc
  go_wp2_with fail
  go_quiet (first | (go_at_call 168; with_reducible exact quiet_left (HT.out _)) | (go_at_call 167; with_reducible exact quiet_left (HU.out _)))
  go_wp2
  go_ret
  exact ⟨rfl, HC.out.drewN _⟩
def limit (want ready : Int) : Int := min (max want (ready / 2)) (10 * max ready 1)
set_option maxHeartbeats 4000000 in
theorem rate_limit (hm : Said.may) (bu ini li rd : Int) (ok : Ok bu ini li rd) (want ready : Int) (w : World) (r0 : 0 ≤ ready) (r1 : ready ≤ 1000) : Calls Tryz.prog 98 #[.agg (ca bu ini li rd), .int .i64 want, .int .i64 ready] w fun e w' => e = .returned (.int .i64 (limit want ready)) ∧ Chg No w w' := by
  have HM := Lib.hid (hm bu ini li rd ok)
  have HX := Lib.hid fun w => rate_most hm bu ini li rd ok ready w r0 r1
  have HL := Lib.hid fun w => rate_least hm bu ini li rd ok ready w r0 r1
  clear hm ok
  have HE : Hid (limit want ready = min (max want (ready / 2)) (10 * max ready 1)) := by show _ = _; rfl
  obtain ⟨m, hm⟩ : ∃ m, 10 * max ready 1 = m := ⟨_, rfl⟩
  obtain ⟨lf, hh⟩ : ∃ h, ready / 2 = h := ⟨_, rfl⟩
  rw [hm] at HX HE
  rw [hh] at HL HE
  clear hm hh
  go_enter Tryz.func98, Tryz.ntmps98
  go_wp2_with fail
  refine (HM.out _).mono ?_
  rintro e w1 ⟨rfl, hc⟩
  have hB := (Blk.new w (ca bu ini li rd) 24).kept hc
  have HC := Lib.hid (((Chg.refl No w).alloc _).trans hc)
  have hr := rowOf_blk hB
  rw [ca_size] at hr
  clear hc
  go_wp2_with fail
  have hS := startS hB (j := 0) rfl
  by_cases h1 : want < lf
  · by_cases h2 : m < lf
    all_goals
      go_region_held3 (fun w' => Hid (Ks bu ini li rd w.heap.size 0 (.int .i64 10000) w1 w') ∧ rowOf w' w.heap.size 0 20 = some (.agg (ca bu ini li rd)) ∧ w'.cell? ⟨w.heap.size, 0, none⟩ = some (.int .i64 10000)) (first | exact hS | assumption | exact keepS hc (by assumption)) (first | (go_at_call 137; refine (HL.out _).mono ?_; rintro e w2 ⟨rfl, hc⟩) | (go_at_call 138; refine (HX.out _).mono ?_; rintro e w3 ⟨rfl, hc2⟩; have hc1 := hc; clear hc; have hc := hc2))
      all_goals
        go_wp2
        all_goals
          go_ret
          refine ⟨by rw [HE.out]; exact ret_int (by omega), HC.out.trans ?_⟩
          exact (((Chg.refl No w1).drew).trans hc1).trans hc2
  · by_cases h2 : m < want
    all_goals
      go_region_held3 (fun w' => Hid (Ks bu ini li rd w.heap.size 0 (.int .i64 10000) w1 w') ∧ rowOf w' w.heap.size 0 20 = some (.agg (ca bu ini li rd)) ∧ w'.cell? ⟨w.heap.size, 0, none⟩ = some (.int .i64 10000)) (first | exact hS | assumption | exact keepS hc (by assumption)) (first | (go_at_call 137; refine (HL.out _).mono ?_; rintro e w2 ⟨rfl, hc⟩) | (go_at_call 138; refine (HX.out _).mono ?_; rintro e w3 ⟨rfl, hc2⟩; have hc1 := hc; clear hc; have hc := hc2))
      all_goals
        go_wp2
        all_goals
          go_ret
          refine ⟨by rw [HE.out]; exact ret_int (by omega), HC.out.trans ?_⟩
          exact (((Chg.refl No w1).drew).trans hc1).trans hc2
end Go.Proofs.YtdgphoemjeakaaaGreatDoor.P
namespace Go.Proofs.YtdgphoemjeakaaaGreatDoor.Me
open Go.RowKit K P U R
set_option maxRecDepth 100000
def RingR (p : Nat) (bs : List Bk) (window n newest : Int) : Rep := fun w S => Ring w S p bs window n newest
theorem RingR.good (p : Nat) (bs : List Bk) (window n newest : Int) : U.Good (RingR p bs window n newest) :=
  ⟨fun h c hd => Ring.chg h c hd, fun ⟨_, _, h, _⟩ => h.bd⟩
theorem RingR.wide (p : Nat) (bs : List Bk) (window n newest : Int) : U.Wide (RingR p bs window n newest) :=
  ⟨fun h hs hb => Ring.mono h (fun k _ h => hs k h) hb⟩
def mw (cs : Array Value) (l : List Value) : Array Value := cs ++ l.toArray
noncomputable def bld (t : TypeId) (parts : Array (Nat × Value)) (w : World) : Result Next := (do pure (.value (← Instr.build t parts)) : Sem Next).run Tryz.prog w
@[go_sem ↓] theorem exec132 (ρ : Operand → Value) (dst : Option Tmp) (fs : Array (Nat × Operand)) (ty : TypeId) (pos : String) (after : Array Edge) (gd : Option (Nat × Bool)) (w : World) : (execOp ρ { dst := dst, op := .build 132 fs, type := ty, pos := pos, after := after, guard := gd }).run Tryz.prog w = bld 132 (fs.map fun x => (x.1, ρ x.2)) w := rfl
@[go_sem ↓] theorem exec94 (ρ : Operand → Value) (dst : Option Tmp) (fs : Array (Nat × Operand)) (ty : TypeId) (pos : String) (after : Array Edge) (gd : Option (Nat × Bool)) (w : World) : (execOp ρ { dst := dst, op := .build 94 fs, type := ty, pos := pos, after := after, guard := gd }).run Tryz.prog w = bld 94 (fs.map fun x => (x.1, ρ x.2)) w := rfl
@[go_sem ↓] theorem exec66 (ρ : Operand → Value) (dst : Option Tmp) (fs : Array (Nat × Operand)) (ty : TypeId) (pos : String) (after : Array Edge) (gd : Option (Nat × Bool)) (w : World) : (execOp ρ { dst := dst, op := .build 66 fs, type := ty, pos := pos, after := after, guard := gd }).run Tryz.prog w = bld 66 (fs.map fun x => (x.1, ρ x.2)) w := rfl
@[go_sem] theorem bld132 (bu ini li rd : Int) (t t' : TypeId) (x x' : Value) (w : World) : bld 132 #[(0, .agg (ca bu ini li rd)), (1, .agg #[.iface t x, .iface t' x'])] w = .ok (.value (.agg (mw (ca bu ini li rd) [.iface t x, .iface t' x', .bool false]))) w := by
  kernel_rfl
@[go_sem] theorem bld94 (bu ini li rd : Int) (a : Addr) (n c : Nat) (x y : Int) (w : World) : bld 94 #[(0, .agg (ca bu ini li rd)), (1, .slice (some a) n c), (2, .agg #[.int .i64 x, .int .i64 y])] w = .ok (.value (.agg (mw (ca bu ini li rd) [.slice (some a) n c, .int .i64 x, .int .i64 y, .int .i64 0]))) w := by
  kernel_rfl
def mc (bu ini li rd : Int) (r0 r1 : Nat) : Array Value := mw (ca bu ini li rd) [.iface 128 (.pointer (some ⟨r0, 0, none⟩)), .iface 128 (.pointer (some ⟨r1, 0, none⟩)), .bool false]
theorem mc_20 (bu ini li rd : Int) (r0 r1 : Nat) : (mc bu ini li rd r0 r1)[20]? = some (.iface 128 (.pointer (some ⟨r0, 0, none⟩))) := rfl
theorem mc_21 (bu ini li rd : Int) (r0 r1 : Nat) : (mc bu ini li rd r0 r1)[21]? = some (.iface 128 (.pointer (some ⟨r1, 0, none⟩))) := rfl
theorem mc_22 (bu ini li rd : Int) (r0 r1 : Nat) : (mc bu ini li rd r0 r1)[22]? = some (.bool false) := rfl
def Metric (bu ini li rd : Int) (m : Nat) (b0 b1 : List Bk) (newest : Int) : Rep := fun w S => ∃ r0 r1, Two (One m (mc bu ini li rd r0 r1) 132) (Two (RingR r0 b0 60 60 newest) (RingR r1 b1 6 6 newest)) w S
theorem Metric.good (bu ini li rd : Int) (m : Nat) (b0 b1 : List Bk) (newest : Int) : U.Good (Metric bu ini li rd m b0 b1 newest) :=
  ⟨fun ⟨r0, r1, h⟩ c hd => ⟨r0, r1, (Two.good (One.good _ _ _) (Two.good (RingR.good _ _ _ _ _) (RingR.good _ _ _ _ _))).chg h c hd⟩, fun ⟨_, _, h⟩ => h.1⟩
theorem Metric.wide (bu ini li rd : Int) (m : Nat) (b0 b1 : List Bk) (newest : Int) : U.Wide (Metric bu ini li rd m b0 b1 newest) :=
  ⟨fun ⟨r0, r1, h⟩ hs hb => ⟨r0, r1, Two.wide.mono h hs hb⟩⟩
theorem keepA {w : World} {B : Nat} {bu ini li rd : Int} (o : Obj) (h : Hid (Blk w B (ca bu ini li rd) 24) ∧ rowOf w B 0 20 = some (.agg (ca bu ini li rd)) ∧ w.cell? ⟨B, 2, none⟩ = some (.int .i64 60) ∧ w.cell? ⟨B, 3, none⟩ = some (.int .i64 6) ∧ w.cell? ⟨B, 4, none⟩ = some (.int .i64 1)) :
    Hid (Blk (w.alloc o) B (ca bu ini li rd) 24) ∧ rowOf (w.alloc o) B 0 20 = some (.agg (ca bu ini li rd)) ∧ (w.alloc o).cell? ⟨B, 2, none⟩ = some (.int .i64 60) ∧ (w.alloc o).cell? ⟨B, 3, none⟩ = some (.int .i64 6) ∧ (w.alloc o).cell? ⟨B, 4, none⟩ = some (.int .i64 1) := by
  have hb : Blk (w.alloc o) B (ca bu ini li rd) 24 := h.1.out.alloc o
  have hr := rowOf_blk hb
  rw [ca_size] at hr
  exact ⟨hb, hr, cell_ca hb 2, cell_ca hb 3, cell_ca hb 4⟩
abbrev rc (n : Int) : Array Value := #[.slice none 0 0, .int .i64 n, .int .i64 1, .int .i64 n, .int .i64 (-1), .bool false]
theorem new_rep (bu ini li rd : Int) (w : World) : Metric bu ini li rd (w.heap.size + 2) [] [] (-1) (((w.alloc (.cells (rc 60) 180)).alloc (.cells (rc 6) 180)).alloc (.cells (mc bu ini li rd w.heap.size (w.heap.size + 1)) 132)) (fun k => w.heap.size ≤ k ∧ k < w.heap.size + 3) := by
  have s1 : (w.alloc (.cells (rc 60) 180)).heap.size = w.heap.size + 1 := by simp
  have s2 : ((w.alloc (.cells (rc 60) 180)).alloc (.cells (rc 6) 180)).heap.size = w.heap.size + 2 := by simp
  have s3 : (((w.alloc (.cells (rc 60) 180)).alloc (.cells (rc 6) 180)).alloc (.cells (mc bu ini li rd w.heap.size (w.heap.size + 1)) 132)).heap.size = w.heap.size + 3 := by simp
  have h1 := R.new_rep w 60
  have h2 := R.new_rep (w.alloc (.cells (rc 60) 180)) 6
  rw [s1] at h2
  have h3 := Blk.new ((w.alloc (.cells (rc 60) 180)).alloc (.cells (rc 6) 180)) (mc bu ini li rd w.heap.size (w.heap.size + 1)) 132
  rw [s2] at h3
  refine ⟨w.heap.size, w.heap.size + 1, fun k hk => by rw [s3]; exact hk.2, fun k => k = w.heap.size + 2, fun k => k = w.heap.size ∨ k = w.heap.size + 1, fun k hk => by omega, fun k hk => by omega, fun k h h' => by omega, ⟨fun k hk => by omega, rfl, h3⟩, fun k hk => by omega, fun k => k = w.heap.size, fun k => k = w.heap.size + 1, fun k hk => .inl hk, fun k hk => .inr hk, fun k h h' => by omega, ?_, ?_⟩
  · exact (RingR.good _ _ _ _ _).kept h1 (((Chg.refl No _).alloc _).alloc _)
  · exact (RingR.good _ _ _ _ _).kept h2 ((Chg.refl No _).alloc _)
set_option maxHeartbeats 1000000 in
theorem new_any (hm : Said.may) (bu ini li rd : Int) (ok : P.Ok bu ini li rd) (w : World) : Calls Tryz.prog 40 #[.agg (ca bu ini li rd)] w fun e w' => ∃ m, e = .returned (.pointer (some ⟨m, 0, none⟩)) ∧ Metric bu ini li rd m [] [] (-1) w' (fun k => w.heap.size ≤ k ∧ k < w'.heap.size) ∧ Chg No w w' := by
  have HM := Lib.hid (hm bu ini li rd ok)
  clear hm ok
  go_enter Tryz.func40, Tryz.ntmps40
  go_wp2_with fail
  have hB : Blk (w.alloc (.cells (ca bu ini li rd) 24)) w.heap.size (ca bu ini li rd) 24 := Blk.new _ _ _
  have HC : Hid (Chg No w (w.alloc (.cells (ca bu ini li rd) 24))) := (Chg.refl No w).alloc _
  generalize w.alloc (.cells (ca bu ini li rd) 24) = w1 at *
  generalize w.heap.size = B at *
  have hr := rowOf_blk hB
  rw [ca_size] at hr
  go_wp2_with (first | (go_at_call 16; refine (HM.out _).mono ?_; rintro e w2 ⟨rfl, hc⟩))
  have hB2 := hB.kept hc
  have hr2 := rowOf_blk hB2
  rw [ca_size] at hr2
  have HC2 := Lib.hid (HC.out.trans hc)
  clear hB hr hc HC HM
  have hS : Hid (Blk w2.drew B (ca bu ini li rd) 24) ∧ rowOf w2.drew B 0 20 = some (.agg (ca bu ini li rd)) ∧ w2.drew.cell? ⟨B, 2, none⟩ = some (.int .i64 60) ∧ w2.drew.cell? ⟨B, 3, none⟩ = some (.int .i64 6) ∧ w2.drew.cell? ⟨B, 4, none⟩ = some (.int .i64 1) := ⟨hB2, hr2, cell_ca hB2 2, cell_ca hB2 3, cell_ca hB2 4⟩
  go_region_held3 (fun w' => Hid (Blk w' B (ca bu ini li rd) 24) ∧ rowOf w' B 0 20 = some (.agg (ca bu ini li rd)) ∧ w'.cell? ⟨B, 2, none⟩ = some (.int .i64 60) ∧ w'.cell? ⟨B, 3, none⟩ = some (.int .i64 6) ∧ w'.cell? ⟨B, 4, none⟩ = some (.int .i64 1)) (first | exact hS | assumption | exact keepA _ (by assumption)) (first | (go_at_call 73; refine (R.new_any _ _ (by omega) (by omega)).mono ?_; rintro e w' ⟨rfl, rfl⟩))
  have HN := Lib.hid ((Metric.good bu ini li rd _ [] [] (-1)).kept (new_rep bu ini li rd w2) ((Chg.refl No _).drew))
  have hsz := HC2.out.size
  go_wp2
  go_ret
  refine ⟨w2.heap.size + 2, rfl, (Metric.wide bu ini li rd _ [] [] (-1)).mono HN.out (fun k hk => ⟨by omega, ?_⟩) (fun k hk => hk.2), ((HC2.out.alloc _).alloc _).alloc _ |>.drew⟩
  rw [show (World.heap (World.drew _)) = World.heap _ from rfl]
  simp
  omega
end Go.Proofs.YtdgphoemjeakaaaGreatDoor.Me
namespace Go.Proofs.YtdgphoemjeakaaaGreatDoor.Me
open Go.RowKit K P U R
set_option maxHeartbeats 1000000 in
theorem of_0 (bu ini li rd : Int) (m r0 r1 : Nat) (w : World) (h : Blk w m (mc bu ini li rd r0 r1) 132) : Calls Tryz.prog 105 #[.pointer (some ⟨m, 0, none⟩), .int .i64 0] w fun e w' => e = .returned (.pointer (some ⟨r0, 0, none⟩)) ∧ Chg No w w' := by
  have c := Blk.cell h 20
  rw [mc_20] at c
  have H := Lib.hid h
  clear h
  go_enter Tryz.func105, Tryz.ntmps105
  go_wp2
  go_ret
  exact ⟨rfl, Chg.refl _ _⟩
set_option maxHeartbeats 1000000 in
theorem of_1 (bu ini li rd : Int) (m r0 r1 : Nat) (w : World) (h : Blk w m (mc bu ini li rd r0 r1) 132) : Calls Tryz.prog 105 #[.pointer (some ⟨m, 0, none⟩), .int .i64 1] w fun e w' => e = .returned (.pointer (some ⟨r1, 0, none⟩)) ∧ Chg No w w' := by
  have c := Blk.cell h 21
  rw [mc_21] at c
  have H := Lib.hid h
  clear h
  go_enter Tryz.func105, Tryz.ntmps105
  go_wp2
  go_ret
  exact ⟨rfl, Chg.refl _ _⟩
def putB (n t v : Int) (bs : List Bk) : List Bk := (bs.filter fun b => !decide (n ≤ t - b.1)) ++ [(t, v)]
def Fine (newest : Int) (bs : List Bk) : Prop := bs.length ≤ 1000 ∧ ∀ x, x ∈ bs → (0 ≤ x.1 ∧ x.1 ≤ newest) ∧ (0 ≤ x.2 ∧ x.2 ≤ 1125899906842624)
def M2 (bu ini li rd : Int) (m r0 r1 : Nat) (b0 b1 : List Bk) (n0 n1 : Int) : Rep := Two (One m (mc bu ini li rd r0 r1) 132) (Two (RingR r0 b0 60 60 n0) (RingR r1 b1 6 6 n1))
theorem M2.good (bu ini li rd : Int) (m r0 r1 : Nat) (b0 b1 : List Bk) (n0 n1 : Int) : U.Good (M2 bu ini li rd m r0 r1 b0 b1 n0 n1) := Two.good (One.good _ _ _) (Two.good (RingR.good _ _ _ _ _) (RingR.good _ _ _ _ _))
theorem M2.wide (bu ini li rd : Int) (m r0 r1 : Nat) (b0 b1 : List Bk) (n0 n1 : Int) : U.Wide (M2 bu ini li rd m r0 r1 b0 b1 n0 n1) := Two.wide
section
variable {bu ini li rd : Int} {m r0 r1 : Nat} {b0 b1 : List Bk} {n0 n1 : Int} {w : World} {S : Nat → Prop}
theorem M2.blk (h : M2 bu ini li rd m r0 r1 b0 b1 n0 n1 w S) : Blk w m (mc bu ini li rd r0 r1) 132 := by
  obtain ⟨A, h1, _⟩ := Two.left (Two.good (RingR.good _ _ _ _ _) (RingR.good _ _ _ _ _)) h
  exact h1.2.2
theorem put_0 (h : M2 bu ini li rd m r0 r1 b0 b1 n0 n1 w S) (f : Fine n0 b0) (t val : Int) (h0 : -1 ≤ n0) (t0 : n0 < t) (t1 : t ≤ 1099511627776) (v0 : 0 ≤ val) (v1 : val ≤ 1125899906842624) :
    Calls Tryz.prog 129 #[.pointer (some ⟨r0, 0, none⟩), .int .i64 t, .int .i64 val] w fun e w' => e = .returned (.int .i64 0) ∧ M2 bu ini li rd m r0 r1 (putB 60 t val b0) b1 t n1 w' (K.nx S w w') ∧ Chg S w w' := by
  obtain ⟨B, hq, _, back⟩ := Two.right (One.good _ _ _) h
  obtain ⟨A, hr, _, back2⟩ := Two.left (RingR.good _ _ _ _ _) hq
  obtain ⟨v, es, hv, he⟩ := hr
  subst he
  obtain ⟨f1, f2⟩ := f
  rw [List.length_map] at f1
  refine (put_any w A r0 v es 60 60 n0 t val hv (by omega) (fun x hx => (f2 x.2 (List.mem_map.2 ⟨x, hx, rfl⟩)).1) h0 t0 t1 v0 v1 (by omega)).mono ?_
  rintro e w' ⟨rfl, hr', hc⟩
  obtain ⟨g1, g2⟩ := back2 (RingR r0 (putB 60 t val (es.map Prod.snd)) 60 60 t) w' hr' hc
  obtain ⟨g3, g4⟩ := back _ w' g1 g2
  exact ⟨rfl, g3, g4⟩
theorem put_1 (h : M2 bu ini li rd m r0 r1 b0 b1 n0 n1 w S) (f : Fine n1 b1) (t val : Int) (h0 : -1 ≤ n1) (t0 : n1 < t) (t1 : t ≤ 1099511627776) (v0 : 0 ≤ val) (v1 : val ≤ 1125899906842624) :
    Calls Tryz.prog 129 #[.pointer (some ⟨r1, 0, none⟩), .int .i64 t, .int .i64 val] w fun e w' => e = .returned (.int .i64 0) ∧ M2 bu ini li rd m r0 r1 b0 (putB 6 t val b1) n0 t w' (K.nx S w w') ∧ Chg S w w' := by
  obtain ⟨B, hq, _, back⟩ := Two.right (One.good _ _ _) h
  obtain ⟨A, hr, _, back2⟩ := Two.right (RingR.good _ _ _ _ _) hq
  obtain ⟨v, es, hv, he⟩ := hr
  subst he
  obtain ⟨f1, f2⟩ := f
  rw [List.length_map] at f1
  refine (put_any w A r1 v es 6 6 n1 t val hv (by omega) (fun x hx => (f2 x.2 (List.mem_map.2 ⟨x, hx, rfl⟩)).1) h0 t0 t1 v0 v1 (by omega)).mono ?_
  rintro e w' ⟨rfl, hr', hc⟩
  obtain ⟨g1, g2⟩ := back2 (RingR r1 (putB 6 t val (es.map Prod.snd)) 6 6 t) w' hr' hc
  obtain ⟨g3, g4⟩ := back _ w' g1 g2
  exact ⟨rfl, g3, g4⟩
theorem mean_0 (h : M2 bu ini li rd m r0 r1 b0 b1 n0 n1 w S) (f : Fine n0 b0) (t : Int) (h0 : n0 ≤ t) (t0 : 0 ≤ t) (t1 : t ≤ 1099511627776) :
    Calls Tryz.prog 133 #[.pointer (some ⟨r0, 0, none⟩), .int .i64 t] w fun e w' => e = .returned (.int .i64 (meanB 60 t b0)) ∧ M2 bu ini li rd m r0 r1 b0 b1 n0 n1 w' (K.nx S w w') ∧ Chg S w w' := by
  obtain ⟨B, hq, _, back⟩ := Two.right (One.good _ _ _) h
  obtain ⟨A, hr, _, back2⟩ := Two.left (RingR.good _ _ _ _ _) hq
  refine (mean_any w A r0 b0 60 60 n0 t hr f.1 (fun x hx => ⟨⟨(f.2 x hx).1.1, by have := (f.2 x hx).1.2; omega⟩, (f.2 x hx).2⟩) t0 t1).mono ?_
  rintro e w' ⟨rfl, hr', hc⟩
  obtain ⟨g1, g2⟩ := back2 (RingR r0 b0 60 60 n0) w' ((RingR.wide _ _ _ _ _).nx' (RingR.good _ _ _ _ _) hr') hc
  obtain ⟨g3, g4⟩ := back _ w' g1 g2
  exact ⟨rfl, g3, g4⟩
theorem mean_1 (h : M2 bu ini li rd m r0 r1 b0 b1 n0 n1 w S) (f : Fine n1 b1) (t : Int) (h0 : n1 ≤ t) (t0 : 0 ≤ t) (t1 : t ≤ 1099511627776) :
    Calls Tryz.prog 133 #[.pointer (some ⟨r1, 0, none⟩), .int .i64 t] w fun e w' => e = .returned (.int .i64 (meanB 6 t b1)) ∧ M2 bu ini li rd m r0 r1 b0 b1 n0 n1 w' (K.nx S w w') ∧ Chg S w w' := by
  obtain ⟨B, hq, _, back⟩ := Two.right (One.good _ _ _) h
  obtain ⟨A, hr, _, back2⟩ := Two.right (RingR.good _ _ _ _ _) hq
  refine (mean_any w A r1 b1 6 6 n1 t hr f.1 (fun x hx => ⟨⟨(f.2 x hx).1.1, by have := (f.2 x hx).1.2; omega⟩, (f.2 x hx).2⟩) t0 t1).mono ?_
  rintro e w' ⟨rfl, hr', hc⟩
  obtain ⟨g1, g2⟩ := back2 (RingR r1 b1 6 6 n1) w' ((RingR.wide _ _ _ _ _).nx' (RingR.good _ _ _ _ _) hr') hc
  obtain ⟨g3, g4⟩ := back _ w' g1 g2
  exact ⟨rfl, g3, g4⟩
theorem over_0 (h : M2 bu ini li rd m r0 r1 b0 b1 n0 n1 w S) : Calls Tryz.prog 106 #[.pointer (some ⟨r0, 0, none⟩)] w fun e w' => e = .returned (.bool false) ∧ w = w' := by
  obtain ⟨B, hq, _, _⟩ := Two.right (One.good _ _ _) h
  obtain ⟨A, hr, _, _⟩ := Two.left (RingR.good _ _ _ _ _) hq
  exact over_any w A r0 b0 60 60 n0 hr
theorem over_1 (h : M2 bu ini li rd m r0 r1 b0 b1 n0 n1 w S) : Calls Tryz.prog 106 #[.pointer (some ⟨r1, 0, none⟩)] w fun e w' => e = .returned (.bool false) ∧ w = w' := by
  obtain ⟨B, hq, _, _⟩ := Two.right (One.good _ _ _) h
  obtain ⟨A, hr, _, _⟩ := Two.right (RingR.good _ _ _ _ _) hq
  exact over_any w A r1 b1 6 6 n1 hr
end
set_option maxHeartbeats 1000000 in
theorem put_m (bu ini li rd : Int) (m : Nat) (b0 b1 : List Bk) (newest t val : Int) (w : World) (S : Nat → Prop) (h : Metric bu ini li rd m b0 b1 newest w S) (f0 : Fine newest b0) (f1 : Fine newest b1) (h0 : -1 ≤ newest) (t0 : newest < t) (t1 : t ≤ 1099511627776) (v0 : 0 ≤ val) (v1 : val ≤ 1125899906842624) :
    Calls Tryz.prog 90 #[.pointer (some ⟨m, 0, none⟩), .int .i64 t, .int .i64 val] w fun e w' => e = .returned (.int .i64 0) ∧ Metric bu ini li rd m (putB 60 t val b0) (putB 6 t val b1) t w' (K.nx S w w') ∧ Chg S w w' := by
  obtain ⟨r0, r1, h⟩ := h
  change M2 bu ini li rd m r0 r1 b0 b1 newest newest w S at h
  have H := Lib.hid h
  clear h
  go_enter Tryz.func90, Tryz.ntmps90
  go_wp2_with fail
  refine (of_0 bu ini li rd m r0 r1 w H.out.blk).mono ?_
  rintro e w1 ⟨rfl, hc1⟩
  have H1 := Lib.hid ((M2.wide _ _ _ _ _ _ _ _ _ _ _).nx (M2.good _ _ _ _ _ _ _ _ _ _ _) H.out hc1)
  have C1 := Lib.hid (hc1.of_no (S := S))
  clear H hc1
  go_wp2_with fail
  refine (put_0 H1.out f0 t val h0 t0 t1 v0 v1).mono ?_
  rintro e w2 ⟨rfl, h2, hc2⟩
  have H2 := Lib.hid ((M2.wide _ _ _ _ _ _ _ _ _ _ _).nn h2 C1.out.size)
  have C2 := Lib.hid (C1.out.next hc2)
  clear H1 C1 h2 hc2
  go_wp2_with fail
  refine (of_1 bu ini li rd m r0 r1 w2 H2.out.blk).mono ?_
  rintro e w3 ⟨rfl, hc3⟩
  have H3 := Lib.hid ((M2.wide _ _ _ _ _ _ _ _ _ _ _).nn ((M2.wide _ _ _ _ _ _ _ _ _ _ _).nx (M2.good _ _ _ _ _ _ _ _ _ _ _) H2.out hc3) C2.out.size)
  have C3 := Lib.hid (C2.out.trans hc3.of_no)
  clear H2 C2 hc3
  go_wp2_with fail
  refine (put_1 H3.out f1 t val h0 t0 t1 v0 v1).mono ?_
  rintro e w4 ⟨rfl, h4, hc4⟩
  have H4 := Lib.hid ((M2.wide _ _ _ _ _ _ _ _ _ _ _).nn h4 C3.out.size)
  have C4 := Lib.hid (C3.out.next hc4)
  clear H3 C3 h4 hc4
  go_wp2_with fail
  go_ret
  exact ⟨rfl, ⟨r0, r1, H4.out⟩, C4.out⟩
set_option maxHeartbeats 1000000 in
theorem means_m (bu ini li rd : Int) (m : Nat) (b0 b1 : List Bk) (newest t : Int) (w : World) (S : Nat → Prop) (h : Metric bu ini li rd m b0 b1 newest w S) (f0 : Fine newest b0) (f1 : Fine newest b1) (h0 : newest ≤ t) (t0 : 0 ≤ t) (t1 : t ≤ 1099511627776) :
    Calls Tryz.prog 94 #[.pointer (some ⟨m, 0, none⟩), .int .i64 t] w fun e w' => e = .returned (.tuple #[.int .i64 (meanB 60 t b0), .int .i64 (meanB 6 t b1)]) ∧ Metric bu ini li rd m b0 b1 newest w' (K.nx S w w') ∧ Chg S w w' := by
  obtain ⟨r0, r1, h⟩ := h
  change M2 bu ini li rd m r0 r1 b0 b1 newest newest w S at h
  have H := Lib.hid h
  clear h
  go_enter Tryz.func94, Tryz.ntmps94
  go_wp2_with fail
  refine (of_0 bu ini li rd m r0 r1 w H.out.blk).mono ?_
  rintro e w1 ⟨rfl, hc1⟩
  have H1 := Lib.hid ((M2.wide _ _ _ _ _ _ _ _ _ _ _).nx (M2.good _ _ _ _ _ _ _ _ _ _ _) H.out hc1)
  have C1 := Lib.hid (hc1.of_no (S := S))
  clear H hc1
  go_wp2_with fail
  refine (mean_0 H1.out f0 t h0 t0 t1).mono ?_
  rintro e w2 ⟨rfl, h2, hc2⟩
  have H2 := Lib.hid ((M2.wide _ _ _ _ _ _ _ _ _ _ _).nn h2 C1.out.size)
  have C2 := Lib.hid (C1.out.next hc2)
  clear H1 C1 h2 hc2
  go_wp2_with fail
  refine (of_1 bu ini li rd m r0 r1 w2 H2.out.blk).mono ?_
  rintro e w3 ⟨rfl, hc3⟩
  have H3 := Lib.hid ((M2.wide _ _ _ _ _ _ _ _ _ _ _).nn ((M2.wide _ _ _ _ _ _ _ _ _ _ _).nx (M2.good _ _ _ _ _ _ _ _ _ _ _) H2.out hc3) C2.out.size)
  have C3 := Lib.hid (C2.out.trans hc3.of_no)
  clear H2 C2 hc3
  go_wp2_with fail
  refine (mean_1 H3.out f1 t h0 t0 t1).mono ?_
  rintro e w4 ⟨rfl, h4, hc4⟩
  have H4 := Lib.hid ((M2.wide _ _ _ _ _ _ _ _ _ _ _).nn h4 C3.out.size)
  have C4 := Lib.hid (C3.out.next hc4)
  clear H3 C3 h4 hc4
  go_wp2_with fail
  go_ret2
  exact ⟨rfl, ⟨r0, r1, H4.out⟩, C4.out⟩
set_option maxHeartbeats 1000000 in
theorem over_m (bu ini li rd : Int) (m : Nat) (b0 b1 : List Bk) (newest : Int) (w : World) (S : Nat → Prop) (h : Metric bu ini li rd m b0 b1 newest w S) :
    Calls Tryz.prog 68 #[.pointer (some ⟨m, 0, none⟩)] w fun e w' => e = .returned (.bool false) ∧ Chg No w w' := by
  obtain ⟨r0, r1, h⟩ := h
  change M2 bu ini li rd m r0 r1 b0 b1 newest newest w S at h
  have c := Blk.cell h.blk 22
  rw [mc_22] at c
  have H := Lib.hid h
  clear h
  go_enter Tryz.func68, Tryz.ntmps68
  go_wp2_with fail
  refine (of_0 bu ini li rd m r0 r1 w H.out.blk).mono ?_
  rintro e w1 ⟨rfl, hc1⟩
  have H1 := Lib.hid ((M2.good _ _ _ _ _ _ _ _ _ _ _).kept H.out hc1)
  have C1 := Lib.hid hc1
  clear H hc1
  go_wp2_with fail
  refine (over_0 H1.out).mono ?_
  rintro e w2 ⟨rfl, rfl⟩
  go_wp2_with fail
  refine (of_1 bu ini li rd m r0 r1 w1 H1.out.blk).mono ?_
  rintro e w3 ⟨rfl, hc3⟩
  have H3 := Lib.hid ((M2.good _ _ _ _ _ _ _ _ _ _ _).kept H1.out hc3)
  have C3 := Lib.hid (C1.out.trans hc3)
  clear H1 C1 hc3
  go_wp2_with fail
  refine (over_1 H3.out).mono ?_
  rintro e w4 ⟨rfl, rfl⟩
  go_wp2_with fail
  go_ret
  exact ⟨rfl, C3.out⟩
end Go.Proofs.YtdgphoemjeakaaaGreatDoor.Me
namespace Go.Proofs.YtdgphoemjeakaaaGreatDoor.Dl
open Go.RowKit Go.Shelf K
set_option maxRecDepth 100000
abbrev Wish := Int × Int
def wish (x : Wish) : Value := .agg #[.int .i64 x.1, .int .i64 x.2]
structure DelayV (w : World) (S : Nat → Prop) (p : Nat) (v : Value) (l : List Wish) (last : Int) : Prop where
  bd : ∀ k, S k → k < w.heap.size
  own : S p
  blk : Blk w p #[v, .int .i64 0, .int .i64 last] 134
  row : Own w S 20 1 v l.length (l.map fun x => Value.iface 218 (wish x))
def Delay (w : World) (S : Nat → Prop) (p : Nat) (l : List Wish) (last : Int) : Prop := ∃ v, DelayV w S p v l last
section
variable {w w' : World} {S T : Nat → Prop} {p : Nat} {v : Value} {l : List Wish} {last : Int}
theorem DelayV.chg (h : DelayV w S p v l last) (c : Chg T w w') (hd : ∀ k, S k → T k → False) : DelayV w' S p v l last :=
  ⟨fun k hk => Nat.lt_of_lt_of_le (h.bd k hk) c.size, h.own, h.blk.chg c (hd p h.own), h.row.chg c hd⟩
theorem DelayV.kept (h : DelayV w S p v l last) (c : Chg No w w') : DelayV w' S p v l last := h.chg c fun _ _ h => h
theorem DelayV.mono (h : DelayV w S p v l last) (hs : ∀ k, k < w.heap.size → S k → T k) (hb : ∀ k, T k → k < w.heap.size) : DelayV w T p v l last :=
  ⟨hb, hs p h.blk.lt h.own, h.blk, h.row.mono hs⟩
theorem Delay.chg (h : Delay w S p l last) (c : Chg T w w') (hd : ∀ k, S k → T k → False) : Delay w' S p l last := by
  obtain ⟨v, h⟩ := h
  exact ⟨v, h.chg c hd⟩
theorem Delay.kept (h : Delay w S p l last) (c : Chg No w w') : Delay w' S p l last := h.chg c fun _ _ h => h
theorem Delay.mono (h : Delay w S p l last) (hs : ∀ k, k < w.heap.size → S k → T k) (hb : ∀ k, T k → k < w.heap.size) : Delay w T p l last := by
  obtain ⟨v, h⟩ := h
  exact ⟨v, h.mono hs hb⟩
theorem DelayV.setLast (h : DelayV w S p v l last) (t : Int) : DelayV (w.setCell ⟨p, 2, none⟩ (.int .i64 t)) S p v l t :=
  ⟨by simpa [World.setCell] using h.bd, h.own, h.blk.set 2 _, h.row.other h.blk (by decide) _⟩
theorem DelayV.filter (h : DelayV w S p v l last) {v' : Value} (q : Wish → Bool) (own : Own w' (Arr w S) 20 1 v' (G.kept q l).length ((G.kept q l).map fun x => Value.iface 218 (wish x))) (c : Chg (Arr w S) w w') : DelayV (w'.setCell ⟨p, 0, none⟩ v') S p v' (G.kept q l) last := by
  have hb := h.blk.chg c (h.blk.no_arr (by decide))
  exact ⟨fun k hk => by have := h.bd k hk; have := c.size; simp [World.setCell]; omega, h.own, hb.set 0 v', (own.mono fun _ _ h => h.1).other hb (by decide) v'⟩
theorem DelayV.push {w1 wX w2 : World} {v' : Value} {t n : Int} (h : DelayV w1 S p v l last) (hX : Chg No w1 wX) (own : Own w2 (K.nx (Arr w1 S) wX w2) 20 1 v' (l.length + 1) ((l.map fun x => Value.iface 218 (wish x)) ++ [.iface 218 (wish (t, n))])) (c : Chg (Arr w1 S) wX w2) :
    DelayV (w2.setCell ⟨p, 0, none⟩ v') (K.nx S w1 (w2.setCell ⟨p, 0, none⟩ v')) p v' (l ++ [(t, n)]) last := by
  have hb := (h.blk.kept hX).chg c (h.blk.no_arr (by decide))
  have hsz : (w2.setCell ⟨p, 0, none⟩ v').heap.size = w2.heap.size := by simp [World.setCell]
  have s1 := hX.size
  refine ⟨fun k hk => hk.2, ⟨.inl h.own, by rw [hsz]; exact hb.lt⟩, hb.set 0 v', ?_⟩
  rw [List.length_append, List.map_append]
  refine Own.other (own.mono fun k hk hS => ?_) hb (by decide) v'
  exact ⟨hS.1.imp (fun h => h.1) (by omega), by rw [hsz]; exact hS.2⟩
end
set_option maxHeartbeats 1000000 in
theorem new_any (w : World) : Calls Tryz.prog 41 #[.int .i64 0] w fun e w' => e = .returned (.pointer (some ⟨w.heap.size, 0, none⟩)) ∧ w' = w.alloc (.cells #[.slice none 0 0, .int .i64 0, .int .i64 0] 134) := by
  go_enter Tryz.func41, Tryz.ntmps41
  go_wp2
  go_ret
  exact ⟨rfl, rfl⟩
theorem new_rep (w : World) : Delay (w.alloc (.cells #[.slice none 0 0, .int .i64 0, .int .i64 0] 134)) (fun k => k = w.heap.size) w.heap.size [] 0 :=
  ⟨.slice none 0 0, fun k hk => by subst hk; simp, rfl, Blk.new _ _ _, Own.nil _ _ _ _⟩
set_option maxHeartbeats 1000000 in
theorem far_pred (w : World) (B : Nat) (x n t : Int) (hB : w.cell? ⟨B, 0, none⟩ = some (.int .i64 t)) (x0 : 0 ≤ x) (x1 : x ≤ 1099511627776) (t0 : 0 ≤ t) (t1 : t ≤ 1099511627776) (hb : B < w.heap.size) :
    Calls Tryz.prog 141 #[.iface 218 (.agg #[.int .i64 x, .int .i64 n]), .pointer (some ⟨B, 0, none⟩)] w fun e w' => e = .returned (.bool (decide (600 < t - x))) ∧ Chg No w w' := by
  go_enter Tryz.func141, Tryz.ntmps141
  go_wp2
  go_ret
  exact ⟨rfl, (Chg.refl No w).alloc _⟩
def far (t : Int) (x : Wish) : Bool := decide (600 < t - x.1)
set_option maxHeartbeats 4000000 in
theorem put_any (w : World) (S : Nat → Prop) (p : Nat) (l : List Wish) (last t n : Int) (h : Delay w S p l last) (hn : l.length + 1 ≤ 1099511627776) (hat : ∀ x, x ∈ l → 0 ≤ x.1 ∧ x.1 ≤ 1099511627776) (l0 : 0 ≤ last) (t0 : last ≤ t) (t1 : t ≤ 1099511627776) (n0 : 0 ≤ n) (n1 : n ≤ 1000000) :
    Calls Tryz.prog 100 #[.pointer (some ⟨p, 0, none⟩), .int .i64 t, .int .i64 n] w fun e w' => e = .returned (.int .i64 0) ∧ Delay w' (K.nx S w w') p (G.kept (far t) l ++ [(t, n)]) t ∧ Chg S w w' := by
  obtain ⟨v, h⟩ := h
  have eg : ∀ args w, (callFunc 141 args).run Tryz.prog w = .ok (.enter 141 args) w := enters_of Tryz.func141 (by kernel_rfl) rfl
  obtain ⟨i0, hi, hz0, hz1, hz2⟩ := info_parts G.info20
  have k1 : decide (t < last) = false := decide_eq_false (by omega)
  have k2 : decide (1099511627776 < t) = false := decide_eq_false (by omega)
  have k3 : decide (n < 0) = false := decide_eq_false (by omega)
  have k4 : decide (1000000 < n) = false := decide_eq_false (by omega)
  have hB0 : Blk (w.alloc (.cells #[.int .i64 t] 2)) w.heap.size #[.int .i64 t] 2 := Blk.new w _ _
  have hR0 := h.kept ((Chg.refl No w).alloc (.cells #[.int .i64 t] 2))
  have HC0 : Hid (Chg S w (w.alloc (.cells #[.int .i64 t] 2))) := (Chg.refl S w).alloc _
  have hneA : w.heap.size ≠ p := by have := h.blk.lt; omega
  have HNS : Hid (¬ S w.heap.size) := fun hS => by have := h.bd _ hS; omega
  have HO := Lib.hid h.own
  have HAT := Lib.hid hat
  have HSW : Hid (w.heap.size < (w.alloc (.cells #[.int .i64 t] 2)).heap.size) := by show _ < _; simp
  obtain ⟨va0, cap0, hv0⟩ := h.row.sl
  subst hv0
  have c0 : (w.alloc (.cells #[.int .i64 t] 2)).cell? ⟨p, 0, none⟩ = some (.slice va0 l.length cap0) := Blk.cell hR0.blk 0
  have c2 : (w.alloc (.cells #[.int .i64 t] 2)).cell? ⟨p, 2, none⟩ = some (.int .i64 last) := Blk.cell hR0.blk 2
  have f2 := Blk.free hR0.blk 2
  have cA : (w.alloc (.cells #[.int .i64 t] 2)).cell? ⟨w.heap.size, 0, none⟩ = some (.int .i64 t) := Blk.cell hB0 0
  have HR0 := Lib.hid hR0
  have HB0 := Lib.hid hB0
  clear h hat hR0 hB0
  go_enter Tryz.func100, Tryz.ntmps100
  go_wp2_with fail
  generalize w.alloc (.cells #[.int .i64 t] 2) = wa at *
  generalize hBw : w.heap.size = B at *
  have HBw := Lib.hid hBw
  clear hBw
  go_wp2_with fail
  go_quiet (fail)
  go_wp2_with fail
  have hR1 := (HR0.out.kept ((Chg.refl No wa).drewN nq)).setLast t
  have hB1 : Blk ((wa.drewN nq).setCell ⟨p, 2, none⟩ (.int .i64 t)) B #[.int .i64 t] 2 := Blk.other (w := wa.drewN nq) HB0.out hneA _
  have HC1 := Lib.hid ((HC0.out.drewN nq).set (a := ⟨p, 2, none⟩) (fun _ => HO.out) (.int .i64 t))
  have HD := Lib.hid (G.delete_func 218 wish (far t) l 141 #[.pointer (some ⟨B, 0, none⟩)] eg _ (Arr ((wa.drewN nq).setCell ⟨p, 2, none⟩ (.int .i64 t)) S) _ hR1.row.arr (by omega) fun W' x hx hc => by
    have b2 := hB1.chg hc (hB1.no_arr (by decide))
    exact far_pred W' B x.1 x.2 t (Blk.cell b2 0) (HAT.out x hx).1 (HAT.out x hx).2 (by omega) t1 b2.lt)
  have HR1 := Lib.hid hR1
  have HB1 := Lib.hid hB1
  clear hR1 hB1
  refine HD.out.mono ?_
  rintro e w2 ⟨v2, rfl, ho, hc⟩
  have hKL : (G.kept (far t) l).length ≤ l.length := List.length_filter_le _ _
  have bp := HR1.out.blk.chg hc (HR1.out.blk.no_arr (by decide))
  have p0 : w2.cell? ⟨p, 0, none⟩ = some (.slice va0 l.length cap0) := Blk.cell bp 0
  have fp := Blk.free bp 0
  have HF := Lib.hid (HR1.out.filter (far t) ho hc)
  have HBF := Lib.hid ((HB1.out.chg hc (HB1.out.no_arr (by decide))).other hneA v2 (j := 0))
  have HCF := Lib.hid (((HC1.out.trans (hc.mono fun _ _ h => h.1))).set (a := ⟨p, 0, none⟩) (fun _ => HO.out) v2)
  obtain ⟨va2, cap2, hv2⟩ := ho.sl
  subst hv2
  have pp0 : (w2.setCell ⟨p, 0, none⟩ (.slice va2 (G.kept (far t) l).length cap2)).cell? ⟨p, 0, none⟩ = some (.slice va2 (G.kept (far t) l).length cap2) := Blk.cell HF.out.blk 0
  have ppf := Blk.free HF.out.blk 0
  have ppA : (w2.setCell ⟨p, 0, none⟩ (.slice va2 (G.kept (far t) l).length cap2)).cell? ⟨B, 0, none⟩ = some (.int .i64 t) := Blk.cell HBF.out 0
  clear c0 c2 f2 cA ho hc bp HD HR1 HB1 HC1 HR0 HB0 HC0
  go_wp2_with fail
  generalize hks : G.kept (far t) l = ks at *
  have HKS := Lib.hid hks
  clear hks
  generalize w2.setCell ⟨p, 0, none⟩ (.slice va2 ks.length cap2) = w3 at *
  have hpl : p < w3.heap.size := HF.out.blk.lt
  have hBl : B < w3.heap.size := HBF.out.lt
  have HA := Lib.hid HF.out.row.arr
  go_region_law (refine step_app rfl (.tmp 46) (.tmp 51) 58 rfl (Arr w3 S) 20 i0 .nilIface 1 16 Tryz.underlying58 hi hz0 hz1 hz2 rfl _ _ _ (by simp [Act.eval]) (HA.out.kept ((Chg.refl No w3).drew.alloc _)) ⟨w3.heap.size, 0, none⟩ 1 1 [.iface 218 (.agg #[.int .i64 t, .int .i64 n])] (by simp [Act.eval]) (by decide) rfl (built_at (by simp)) (by simp [Value.oneCell']) (by simp only [maxLen]; omega) (by omega) ?_; intro g5 o5 c5 w5 ho5 hc5; have hPU := HF.out.push (t := t) (n := n) (by first | exact ((Chg.refl No w3).alloc _).drew | exact ((Chg.refl No w3).drew).alloc _) ho5 hc5; have bp5 := (HF.out.blk.kept (by first | exact ((Chg.refl No w3).alloc _).drew | exact ((Chg.refl No w3).drew).alloc _)).chg hc5 (HF.out.blk.no_arr (by decide)); have p05 : w5.cell? ⟨p, 0, none⟩ = some (.slice va2 ks.length cap2) := Blk.cell bp5 0; have fp5 := Blk.free bp5 0; have HPU := Lib.hid hPU; have HC5 := Lib.hid hc5; clear ho5 hc5 bp5 hPU)
  all_goals
    go_wp2
    go_ret
    rw [HKS.out]
    refine ⟨rfl, ⟨_, HPU.out.mono (fun k _ hk => nx_no HCF.out.size hk) fun k hk => hk.2⟩, ?_⟩
    first
    | exact (((HCF.out.alloc _).drew).step HC5.out fun k _ h => h.1).set (a := ⟨p, 0, none⟩) (fun _ => HO.out) _
    | exact (((HCF.out.drew).alloc _).step HC5.out fun k _ h => h.1).set (a := ⟨p, 0, none⟩) (fun _ => HO.out) _
def mostD (t : Int) (l : List Wish) : Int := ((l.filter fun x => decide (t ≤ x.1)).map Prod.snd).foldl max 0
theorem mostD_snoc (t : Int) (l : List Wish) (x : Wish) : mostD t (l ++ [x]) = if t ≤ x.1 then max (mostD t l) x.2 else mostD t l := by
  unfold mostD
  rw [List.filter_append, List.map_append, List.foldl_append]
  by_cases h : t ≤ x.1 <;> simp [h]
theorem mostD_bd (t : Int) : ∀ (l : List Wish), (∀ x, x ∈ l → 0 ≤ x.2 ∧ x.2 ≤ 1000000) → 0 ≤ mostD t l ∧ mostD t l ≤ 1000000 := by
  intro l h
  have : ∀ (l : List Wish) (a : Int), 0 ≤ a ∧ a ≤ 1000000 → (∀ x, x ∈ l → 0 ≤ x.2 ∧ x.2 ≤ 1000000) → 0 ≤ (l.map Prod.snd).foldl max a ∧ (l.map Prod.snd).foldl max a ≤ 1000000 := by
    intro l
    induction l with
    | nil => intro a ha _; simpa using ha
    | cons s l ih =>
      intro a ha h
      have h1 := h s (by simp)
      exact ih (max a s.2) (by omega) (fun x hx => h x (by simp [hx]))
  exact this _ 0 (by omega) (fun x hx => h x (List.mem_filter.1 hx).1)
set_option maxHeartbeats 4000000 in
theorem most_any (w : World) (S : Nat → Prop) (p : Nat) (l : List Wish) (last t : Int) (h : Delay w S p l last) (hn : l.length ≤ 1099511627776) (hat : ∀ x, x ∈ l → (0 ≤ x.1 ∧ x.1 ≤ t) ∧ (0 ≤ x.2 ∧ x.2 ≤ 1000000)) (t0 : 0 ≤ t) (t1 : t ≤ 1099511627776) :
    Calls Tryz.prog 102 #[.pointer (some ⟨p, 0, none⟩), .int .i64 t] w fun e w' => e = .returned (.int .i64 (mostD t l)) ∧ Chg No w w' := by
  obtain ⟨v, h⟩ := h
  have c0 : w.cell? ⟨p, 0, none⟩ = some v := Blk.cell h.blk 0
  obtain ⟨va, cap, hv⟩ := h.row.sl
  subst hv
  have H := Lib.hid h
  have HAT := Lib.hid hat
  clear h hat
  go_enter Tryz.func102, Tryz.ntmps102
  go_wp2_with fail
  go_loopw [5, 19] (fun s i wr => ∃ k : Nat, k ≤ l.length ∧ i = .int .i64 k ∧ s = .int .i64 (mostD t (l.take k)) ∧ Hid (Chg No w wr)) (fun _ i _ => l.length - (intOf i).toNat)
  case atStart => exact ⟨0, Nat.zero_le _, rfl, rfl, Chg.refl _ _⟩
  case round =>
    obtain ⟨k, hk, rfl, rfl, HC⟩ := hrel
    by_cases hlt : k < l.length
    · have HR := Lib.hid (H.out.kept HC.out)
      obtain ⟨g, o, rfl, hS, hg, hcap, hmax⟩ := HR.out.row.some_ (by omega)
      obtain ⟨⟨a, s⟩, hq⟩ : ∃ x, l[k]? = some x := ⟨l[k], List.getElem?_eq_getElem hlt⟩
      obtain ⟨⟨a0, a1⟩, s0, s1⟩ := HAT.out _ (List.mem_of_getElem? hq)
      have e0 : wr.cell? ⟨g, o + k, none⟩ = some (.iface 218 (.agg #[.int .i64 a, .int .i64 s])) := by
        rw [HR.out.row.cellAt k (by omega), List.getElem?_map, hq]
        rfl
      have p1 : wr.cell? ⟨p, 1, none⟩ = some (.int .i64 0) := Blk.cell HR.out.blk 1
      have hpl := HR.out.blk.lt
      have hT : l.take (k + 1) = l.take k ++ [(a, s)] := by rw [List.take_add_one, hq]; rfl
      have HN := Lib.hid (mostD_snoc t (l.take k) (a, s))
      rw [← hT] at HN
      obtain ⟨m0, m1⟩ := mostD_bd t (l.take k) (fun x hx => (HAT.out x (List.mem_of_mem_take hx)).2)
      clear hT hq hS hmax
      generalize mostD t (l.take k) = m at *
      by_cases hta : t ≤ a
      · have x1 : decide (t ≤ a) = true := decide_eq_true hta
        have HN2 : Hid (mostD t (l.take (k + 1)) = max m s) := by show _ = _; rw [HN.out, if_pos hta]
        by_cases hms : m < s
        all_goals
          go_wp2
          go_quiet (fail)
          go_wp2
          go_roundw
          case rel =>
            refine ⟨k + 1, by omega, by go_num, ?_, (HC.out.alloc _).drewN _⟩
            rw [HN2.out]
            congr 1
            omega
          case measure => simp [intOf]; omega
      · have x1 : decide (t ≤ a) = false := decide_eq_false hta
        have x2 : decide (t - a < 0) = false := decide_eq_false (by omega)
        have HN2 : Hid (mostD t (l.take (k + 1)) = m) := by show _ = _; rw [HN.out, if_neg hta]
        go_wp2
        go_quiet (fail)
        go_wp2
        go_roundw
        case rel => exact ⟨k + 1, by omega, by go_num, by rw [HN2.out], (HC.out.alloc _).drewN _⟩
        case measure => simp [intOf]; omega
    · obtain rfl : k = l.length := by omega
      rw [List.take_length]
      go_wp2
      go_ret
      exact ⟨rfl, HC.out⟩
end Go.Proofs.YtdgphoemjeakaaaGreatDoor.Dl
