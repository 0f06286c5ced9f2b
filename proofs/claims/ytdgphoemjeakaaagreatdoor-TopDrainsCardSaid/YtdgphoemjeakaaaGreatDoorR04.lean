/- Packages alarm, zero, burst: what their functions give. Package decide: New, metric, holds. Package decide: metric, holds, Put, Over. Packages zero (May, Want), burst, event: what their functions give. Package burst: what its functions give. Package decide: what Next keeps. Package sample: what its functions give. -/
import Derived.Test.YtdgphoemjeakaaaGreatDoorR03
import Derived.Handy
import Derived.Test.YtdgphoemjeakaaaGreatDoorR02
namespace Go.Proofs.YtdgphoemjeakaaaGreatDoor.P
open Go.RowKit K
set_option maxRecDepth 100000
def mode (since most : Int) : Value := .agg #[.int .i64 since, .int .i64 most]
set_option maxHeartbeats 1000000 in
theorem calm_any (w : World) : Calls Tryz.prog 42 #[] w fun e w' => e = .returned (.agg #[.int .i64 (-1), .int .i64 0]) ∧ Chg No w w' := by
  go_enter Tryz.func42, Tryz.ntmps42
  go_wp2
  go_returns
  exact ⟨rfl, (Chg.refl No w).alloc _⟩
set_option maxHeartbeats 1000000 in
theorem panics_any (since most : Int) (w : World) : Calls Tryz.prog 139 #[.iface 91 (.agg #[.int .i64 since, .int .i64 most])] w fun e w' => e = .returned (.bool (decide (0 ≤ since))) ∧ Chg No w w' := by
  go_enter Tryz.func139, Tryz.ntmps139
  go_wp2
  go_returns
  exact ⟨rfl, (Chg.refl No w).alloc _⟩
set_option maxHeartbeats 1000000 in
theorem is_any (since most : Int) (w : World) : Calls Tryz.prog 99 #[.agg #[.int .i64 since, .int .i64 most]] w fun e w' => e = .returned (.bool (decide (0 ≤ since))) ∧ Chg No w w' := by
  go_enter Tryz.func99, Tryz.ntmps99
  go_wp2_with fail
  refine (panics_any _ _ _).mono ?_
  rintro e w1 ⟨rfl, hc⟩
  go_wp2
  go_returns
  exact ⟨rfl, ((Chg.refl No w).alloc _).trans hc⟩
theorem two_new {w w1 : World} {c1 c2 : Array Value} {t1 t2 : TypeId} (hc : Chg No ((w.alloc (.cells c1 t1)).alloc (.cells c2 t2)) w1) : Blk w1 w.heap.size c1 t1 ∧ Blk w1 (w.heap.size + 1) c2 t2 ∧ Chg No w w1 := by
  refine ⟨((Blk.new w c1 t1).alloc _).kept hc, ?_, (((Chg.refl No w).alloc _).alloc _).trans hc⟩
  have := (Blk.new (w.alloc (.cells c1 t1)) c2 t2).kept hc
  simpa using this
theorem _root_.Go.Proofs.YtdgphoemjeakaaaGreatDoor.K.Chg.set_new {S : Nat → Prop} {w w' : World} (h : Chg S w w') {b j : Nat} (hb : w.heap.size ≤ b) (v : Value) : Chg S w (w'.setCell ⟨b, j, none⟩ v) := h.set (a := ⟨b, j, none⟩) (fun hlt => absurd hlt (by show ¬ b < _; omega)) v
def keep (since most want : Int) : Int × Int := if 0 ≤ since then (max most want, max most want) else (most, want)
set_option maxHeartbeats 1000000 in
theorem keep_any (since most want : Int) (w : World) : Calls Tryz.prog 101 #[.agg #[.int .i64 since, .int .i64 most], .int .i64 want] w fun e w' => e = .returned (.tuple #[.agg #[.int .i64 since, .int .i64 (keep since most want).1], .int .i64 (keep since most want).2]) ∧ Chg No w w' := by
  have HI := Lib.hid fun w => is_any since most w
  by_cases hs : 0 ≤ since
  · have hd : decide (0 ≤ since) = true := decide_eq_true hs
    rw [hd] at HI
    have HE : Hid (keep since most want = (max most want, max most want)) := if_pos hs
    clear hd hs
    by_cases hm : most < want
    all_goals
      go_enter Tryz.func101, Tryz.ntmps101
      go_wp2_with fail
      refine (HI.out _).mono ?_
      rintro e w1 ⟨rfl, hc⟩
      obtain ⟨hA, hR, hC⟩ := two_new hc
      have a0 : w1.cell? ⟨w.heap.size, 0, none⟩ = some (.int .i64 since) := Blk.cell hA 0
      have a1 : w1.cell? ⟨w.heap.size, 1, none⟩ = some (.int .i64 most) := Blk.cell hA 1
      have r0 : w1.cell? ⟨w.heap.size + 1, 0, none⟩ = some (.int .i64 0) := Blk.cell hR 0
      have r1 : w1.cell? ⟨w.heap.size + 1, 1, none⟩ = some (.int .i64 0) := Blk.cell hR 1
      have f1 := Blk.free hA 1
      have g0 := Blk.free hR 0
      have g1 := Blk.free hR 1
      have HC := Lib.hid hC
      generalize hB0 : w.heap.size = B at *
      have HB0 := Lib.hid hB0
      clear hc hA hR hC hB0
      go_wp2
      go_region
      all_goals
        go_wp2
        try simp only [Exit.inBlock, Exit.then]
        refine bodyPost_ret (by simp [results, Tryz.results101, go_sem, r0, r1]; rfl) rfl ?_
        rw [HE.out]
        refine ⟨by first | rw [Int.max_eq_right (by omega)] | rw [Int.max_eq_left (by omega)], ?_⟩
        have hB := HB0.out
        first
        | exact (((HC.out.set_new (by omega) _).set_new (by omega) _).set_new (by omega) _).drew
        | exact ((HC.out.set_new (by omega) _).set_new (by omega) _).set_new (by omega) _
  · have hd : decide (0 ≤ since) = false := decide_eq_false hs
    rw [hd] at HI
    have HE : Hid (keep since most want = (most, want)) := if_neg hs
    clear hd hs
    go_enter Tryz.func101, Tryz.ntmps101
    go_wp2_with fail
    refine (HI.out _).mono ?_
    rintro e w1 ⟨rfl, hc⟩
    obtain ⟨hA, hR, hC⟩ := two_new hc
    have a0 : w1.cell? ⟨w.heap.size, 0, none⟩ = some (.int .i64 since) := Blk.cell hA 0
    have a1 : w1.cell? ⟨w.heap.size, 1, none⟩ = some (.int .i64 most) := Blk.cell hA 1
    have r0 : w1.cell? ⟨w.heap.size + 1, 0, none⟩ = some (.int .i64 0) := Blk.cell hR 0
    have r1 : w1.cell? ⟨w.heap.size + 1, 1, none⟩ = some (.int .i64 0) := Blk.cell hR 1
    have g0 := Blk.free hR 0
    have g1 := Blk.free hR 1
    have HC := Lib.hid hC
    generalize hB0 : w.heap.size = B at *
    have HB0 := Lib.hid hB0
    clear hc hA hR hC hB0
    go_wp2
    try simp only [Exit.inBlock, Exit.then]
    refine bodyPost_ret (by simp [results, Tryz.results101, go_sem, r0, r1]; rfl) rfl ?_
    rw [HE.out]
    have hB := HB0.out
    exact ⟨rfl, (HC.out.set_new (by omega) _).set_new (by omega) _⟩
def nextMode (since most now : Int) (over : Bool) : Int × Int := if over then (if 0 ≤ since then (now, most) else (now, 0)) else if 0 ≤ since ∧ 60 ≤ now - since then (-1, 0) else (since, most)
set_option maxHeartbeats 4000000 in
theorem next_mode (hm : Said.may) (bu ini li rd : Int) (ok : Ok bu ini li rd) (since most now : Int) (over : Bool) (w : World) (n0 : 0 ≤ now) (n1 : now ≤ 1099511627776) (s0 : -1 ≤ since) (s1 : since ≤ 1099511627776) :
    Calls Tryz.prog 96 #[.agg (ca bu ini li rd), .agg #[.int .i64 since, .int .i64 most], .int .i64 now, .bool over] w fun e w' => e = .returned (.agg #[.int .i64 (nextMode since most now over).1, .int .i64 (nextMode since most now over).2]) ∧ Chg No w w' := by
  have HM := Lib.hid (hm bu ini li rd ok)
  have HI := Lib.hid fun w => is_any since most w
  clear hm ok
  have k1 : decide (now < 0) = false := decide_eq_false (by omega)
  have k2 : decide (1099511627776 < now) = false := decide_eq_false (by omega)
  obtain ⟨d, hd⟩ : ∃ d, decide (0 ≤ since) = d := ⟨_, rfl⟩
  obtain ⟨x, hx⟩ : ∃ x, decide (60 ≤ now - since) = x := ⟨_, rfl⟩
  have HE : Hid (nextMode since most now over = if over then (if d then (now, most) else (now, 0)) else if d && x then (-1, 0) else (since, most)) := by
    show _ = _
    unfold nextMode
    rw [← hd, ← hx]
    by_cases a : 0 ≤ since <;> by_cases b : 60 ≤ now - since <;> simp [a, b]
  rw [hd] at HI
  clear hd
  have hr0 : rowOf (((w.alloc (.cells (ca bu ini li rd) 24)).alloc (.cells #[.int .i64 since, .int .i64 most] 91)).alloc (.cells #[.int .i64 0, .int .i64 0] 91)) w.heap.size 0 20 = some (.agg (ca bu ini li rd)) := rowOf_blk (((Blk.new w (ca bu ini li rd) 24).alloc _).alloc _)
  go_enter Tryz.func96, Tryz.ntmps96
  go_wp2_with fail
  refine (HM.out _).mono ?_
  rintro e w1 ⟨rfl, hc⟩
  have hN := (Blk.new w (ca bu ini li rd) 24)
  have hA := ((hN.alloc (.cells #[.int .i64 since, .int .i64 most] 91)).alloc (.cells #[.int .i64 0, .int .i64 0] 91)).kept hc
  obtain ⟨hM, hR, hC⟩ := two_new hc
  have e1 : (w.alloc (.cells (ca bu ini li rd) 24)).heap.size = w.heap.size + 1 := by simp
  rw [e1] at hM hR
  have HA := Lib.hid hA
  have HC := Lib.hid (((Chg.refl No w).alloc _).trans hC)
  clear hN hA hC hc hr0 e1
  generalize hB0 : w.heap.size = B at *
  have HB0 := Lib.hid hB0
  clear hB0
  cases over
  · -- no alarm
    have m0 : w1.cell? ⟨B + 1, 0, none⟩ = some (.int .i64 since) := Blk.cell hM 0
    have m1 : w1.cell? ⟨B + 1, 1, none⟩ = some (.int .i64 most) := Blk.cell hM 1
    have HM2 := Lib.hid hM
    have HR := Lib.hid hR
    clear hM hR
    go_wp2_with fail
    refine (HI.out _).mono ?_
    rintro e w2 ⟨rfl, hc⟩
    have c2 : w2.cell? ⟨B, 2, none⟩ = some (.int .i64 60) := cell_ca (HA.out.kept hc) 2
    have m0 : w2.cell? ⟨B + 1, 0, none⟩ = some (.int .i64 since) := Blk.cell (HM2.out.kept hc) 0
    have m1 : w2.cell? ⟨B + 1, 1, none⟩ = some (.int .i64 most) := Blk.cell (HM2.out.kept hc) 1
    have r0 : w2.cell? ⟨B + 1 + 1, 0, none⟩ = some (.int .i64 0) := Blk.cell (HR.out.kept hc) 0
    have r1 : w2.cell? ⟨B + 1 + 1, 1, none⟩ = some (.int .i64 0) := Blk.cell (HR.out.kept hc) 1
    have g0 := Blk.free (HR.out.kept hc) 0
    have g1 := Blk.free (HR.out.kept hc) 1
    have HC2 := Lib.hid (HC.out.trans hc)
    have HR2 := Lib.hid (HR.out.kept hc)
    clear hc
    cases d <;> cases x
    case true.true =>
      go_wp2_with fail
      refine (calm_any _).mono ?_
      rintro e w3 ⟨rfl, hc⟩
      have r0 : w3.cell? ⟨B + 1 + 1, 0, none⟩ = some (.int .i64 0) := Blk.cell (HR2.out.kept hc) 0
      have r1 : w3.cell? ⟨B + 1 + 1, 1, none⟩ = some (.int .i64 0) := Blk.cell (HR2.out.kept hc) 1
      have g0 := Blk.free (HR2.out.kept hc) 0
      have g1 := Blk.free (HR2.out.kept hc) 1
      have HC3 := Lib.hid (HC2.out.trans hc)
      clear hc
      go_wp2
      try simp only [Exit.inBlock, Exit.then]
      refine bodyPost_ret (by simp [results, Tryz.results96, go_sem, r0, r1]; rfl) rfl ?_
      rw [HE.out]
      have hB := HB0.out
      exact ⟨rfl, (HC3.out.set_new (by omega) _).set_new (by omega) _⟩
    all_goals
      go_wp2
      try simp only [Exit.inBlock, Exit.then]
      refine bodyPost_ret (by simp [results, Tryz.results96, go_sem, r0, r1]; rfl) rfl ?_
      rw [HE.out]
      have hB := HB0.out
      exact ⟨rfl, (HC2.out.set_new (by omega) _).set_new (by omega) _⟩
  · have m0 : w1.cell? ⟨B + 1, 0, none⟩ = some (.int .i64 since) := Blk.cell hM 0
    have m1 : w1.cell? ⟨B + 1, 1, none⟩ = some (.int .i64 most) := Blk.cell hM 1
    have HM2 := Lib.hid hM
    have HR := Lib.hid hR
    clear hM hR
    go_wp2_with fail
    refine (HI.out _).mono ?_
    rintro e w2 ⟨rfl, hc⟩
    have m0 : w2.cell? ⟨B + 1, 0, none⟩ = some (.int .i64 since) := Blk.cell (HM2.out.kept hc) 0
    have m1 : w2.cell? ⟨B + 1, 1, none⟩ = some (.int .i64 most) := Blk.cell (HM2.out.kept hc) 1
    have f0 := Blk.free (HM2.out.kept hc) 0
    have r0 : w2.cell? ⟨B + 1 + 1, 0, none⟩ = some (.int .i64 0) := Blk.cell (HR.out.kept hc) 0
    have r1 : w2.cell? ⟨B + 1 + 1, 1, none⟩ = some (.int .i64 0) := Blk.cell (HR.out.kept hc) 1
    have g0 := Blk.free (HR.out.kept hc) 0
    have g1 := Blk.free (HR.out.kept hc) 1
    have HC2 := Lib.hid (HC.out.trans hc)
    clear hc
    cases d
    all_goals
      go_wp2
      try simp only [Exit.inBlock, Exit.then]
      refine bodyPost_ret (by simp [results, Tryz.results96, go_sem, r0, r1]; rfl) rfl ?_
      rw [HE.out]
      have hB := HB0.out
      first
      | exact ⟨rfl, (HC2.out.set_new (by omega) _).set_new (by omega) _⟩
      | exact ⟨rfl, ((HC2.out.set_new (by omega) _).set_new (by omega) _).set_new (by omega) _⟩
def nextState (since now : Int) (proxy : Bool) : Int := if proxy then (if 0 ≤ since then since else now) else -1
set_option maxHeartbeats 1000000 in
theorem state_new (w : World) : Calls Tryz.prog 20 #[] w fun e w' => e = .returned (.agg #[.int .i64 (-1)]) ∧ Chg No w w' := by
  go_enter Tryz.func20, Tryz.ntmps20
  go_wp2
  go_returns
  exact ⟨rfl, (Chg.refl No w).alloc _⟩
set_option maxHeartbeats 1000000 in
theorem since_any (since : Int) (w : World) : Calls Tryz.prog 103 #[.iface 60 (.agg #[.int .i64 since])] w fun e w' => e = .returned (.int .i64 since) ∧ Chg No w w' := by
  go_enter Tryz.func103, Tryz.ntmps103
  go_wp2
  go_returns
  exact ⟨rfl, (Chg.refl No w).alloc _⟩
set_option maxHeartbeats 1000000 in
theorem zero_next (since now : Int) (proxy : Bool) (w : World) : Calls Tryz.prog 64 #[.agg #[.int .i64 since], .int .i64 now, .bool proxy] w fun e w' => e = .returned (.agg #[.int .i64 (nextState since now proxy)]) ∧ Chg No w w' := by
  have HS := Lib.hid fun w => since_any since w
  cases proxy
  · go_enter Tryz.func64, Tryz.ntmps64
    go_wp2_with fail
    refine (state_new _).mono ?_
    rintro e w1 ⟨rfl, hc⟩
    obtain ⟨hM, hR, hC⟩ := two_new hc
    have r0 : w1.cell? ⟨w.heap.size + 1, 0, none⟩ = some (.int .i64 0) := Blk.cell hR 0
    have g0 := Blk.free hR 0
    have HC := Lib.hid hC
    clear hM hR hC hc
    go_wp2
    try simp only [Exit.inBlock, Exit.then]
    refine bodyPost_ret (by simp [results, Tryz.results64, go_sem, r0]; rfl) rfl ?_
    exact ⟨rfl, HC.out.set_new (by omega) _⟩
  · obtain ⟨d, hd⟩ : ∃ d, decide (0 ≤ since) = d := ⟨_, rfl⟩
    have HE : Hid (nextState since now true = if d then since else now) := by show _ = _; unfold nextState; rw [← hd]; simp
    go_enter Tryz.func64, Tryz.ntmps64
    go_wp2_with fail
    refine (HS.out _).mono ?_
    rintro e w1 ⟨rfl, hc⟩
    obtain ⟨hM, hR, hC⟩ := two_new hc
    have m0 : w1.cell? ⟨w.heap.size, 0, none⟩ = some (.int .i64 since) := Blk.cell hM 0
    have r0 : w1.cell? ⟨w.heap.size + 1, 0, none⟩ = some (.int .i64 0) := Blk.cell hR 0
    have g0 := Blk.free hR 0
    have HC := Lib.hid hC
    clear hM hR hC hc
    cases d
    all_goals
      go_wp2
      try simp only [Exit.inBlock, Exit.then]
      refine bodyPost_ret (by simp [results, Tryz.results64, go_sem, r0]; rfl) rfl ?_
      rw [HE.out]
      exact ⟨rfl, HC.out.set_new (by omega) _⟩
end Go.Proofs.YtdgphoemjeakaaaGreatDoor.P
namespace Go.Proofs.YtdgphoemjeakaaaGreatDoor.De
open Go.RowKit K P U R Me
set_option maxRecDepth 100000
def DelayR (p : Nat) (l : List Dl.Wish) (last : Int) : Rep := fun w S => Dl.Delay w S p l last
theorem DelayR.good (p : Nat) (l : List Dl.Wish) (last : Int) : U.Good (DelayR p l last) := ⟨fun h c hd => Dl.Delay.chg h c hd, fun ⟨_, h⟩ => h.bd⟩
theorem DelayR.wide (p : Nat) (l : List Dl.Wish) (last : Int) : U.Wide (DelayR p l last) := ⟨fun h hs hb => Dl.Delay.mono h (fun k _ h => hs k h) hb⟩
def dc (bu ini li rd : Int) (g : Nat) (since most last : Int) : Array Value := mw (ca bu ini li rd) [.slice (some ⟨g, 0, none⟩) 2 2, .int .i64 since, .int .i64 most, .int .i64 last]
def gc (m h : Nat) : Array Value := #[.iface 86 (.pointer (some ⟨m, 0, none⟩)), .iface 88 (.pointer (some ⟨h, 0, none⟩))]
theorem dc_20 (bu ini li rd : Int) (g : Nat) (since most last : Int) : (dc bu ini li rd g since most last)[20]? = some (.slice (some ⟨g, 0, none⟩) 2 2) := rfl
theorem dc_set21 (bu ini li rd : Int) (g : Nat) (since most last v : Int) : (dc bu ini li rd g since most last).setIfInBounds 21 (.int .i64 v) = dc bu ini li rd g v most last := rfl
theorem dc_set22 (bu ini li rd : Int) (g : Nat) (since most last v : Int) : (dc bu ini li rd g since most last).setIfInBounds 22 (.int .i64 v) = dc bu ini li rd g since v last := rfl
theorem dc_set23 (bu ini li rd : Int) (g : Nat) (since most last v : Int) : (dc bu ini li rd g since most last).setIfInBounds 23 (.int .i64 v) = dc bu ini li rd g since most v := rfl
def D2 (bu ini li rd : Int) (d g m h : Nat) (b0 b1 : List Bk) (newest : Int) (l : List Dl.Wish) (hlast since most last : Int) : Rep := Two (One d (dc bu ini li rd g since most last) 94) (Two (One g (gc m h) 20) (Two (Metric bu ini li rd m b0 b1 newest) (DelayR h l hlast)))
theorem D2.good {bu ini li rd : Int} {d g m h : Nat} {b0 b1 : List Bk} {newest : Int} {l : List Dl.Wish} {hlast since most last : Int} : U.Good (D2 bu ini li rd d g m h b0 b1 newest l hlast since most last) := Two.good (One.good _ _ _) (Two.good (One.good _ _ _) (Two.good (Metric.good _ _ _ _ _ _ _ _) (DelayR.good _ _ _)))
theorem D2.wide {bu ini li rd : Int} {d g m h : Nat} {b0 b1 : List Bk} {newest : Int} {l : List Dl.Wish} {hlast since most last : Int} : U.Wide (D2 bu ini li rd d g m h b0 b1 newest l hlast since most last) := Two.wide
def Decider (bu ini li rd : Int) (d : Nat) (b0 b1 : List Bk) (newest : Int) (l : List Dl.Wish) (hlast since most last : Int) : Rep := fun w S => ∃ g m h, D2 bu ini li rd d g m h b0 b1 newest l hlast since most last w S
theorem Decider.good {bu ini li rd : Int} {d : Nat} {b0 b1 : List Bk} {newest : Int} {l : List Dl.Wish} {hlast since most last : Int} : U.Good (Decider bu ini li rd d b0 b1 newest l hlast since most last) :=
  ⟨fun ⟨g, m, h, x⟩ c hd => ⟨g, m, h, D2.good.chg x c hd⟩, fun ⟨_, _, _, x⟩ => x.1⟩
theorem Decider.wide {bu ini li rd : Int} {d : Nat} {b0 b1 : List Bk} {newest : Int} {l : List Dl.Wish} {hlast since most last : Int} : U.Wide (Decider bu ini li rd d b0 b1 newest l hlast since most last) :=
  ⟨fun ⟨g, m, h, x⟩ hs hb => ⟨g, m, h, D2.wide.mono x hs hb⟩⟩
theorem rep {bu ini li rd : Int} {m x g d a : Nat} {w : World} (hm : Metric bu ini li rd m [] [] (-1) w (fun k => a ≤ k ∧ k < x)) (hx : a ≤ x) (hd : Dl.Delay w (fun k => k = x) x [] 0) (hg : x < g) (hgd : g < d) (bg : Blk w g (gc m x) 20) (bd : Blk w d (dc bu ini li rd g (-1) 0 0) 94) :
    D2 bu ini li rd d g m x [] [] (-1) [] 0 (-1) 0 0 w (fun k => a ≤ k ∧ k < w.heap.size) := by
  have h1 := bd.lt
  refine ⟨fun k hk => hk.2, fun k => k = d, fun k => a ≤ k ∧ k < d, fun k hk => by omega, fun k hk => by omega, fun k h h' => by omega, ⟨fun k hk => by omega, rfl, bd⟩, fun k hk => by omega, fun k => k = g, fun k => a ≤ k ∧ k < g, fun k hk => by omega, fun k hk => by omega, fun k h h' => by omega, ⟨fun k hk => by omega, rfl, bg⟩, fun k hk => by omega, fun k => a ≤ k ∧ k < x, fun k => k = x, fun k hk => by omega, fun k hk => by omega, fun k h h' => by omega, hm, hd⟩
theorem keepC {w w' : World} {B : Nat} {bu ini li rd : Int} (h : Hid (Blk w B (ca bu ini li rd) 24) ∧ rowOf w B 0 20 = some (.agg (ca bu ini li rd)) ∧ w.cell? ⟨B, 12, none⟩ = some (.int .i64 0)) (c : Chg No w w') :
    Hid (Blk w' B (ca bu ini li rd) 24) ∧ rowOf w' B 0 20 = some (.agg (ca bu ini li rd)) ∧ w'.cell? ⟨B, 12, none⟩ = some (.int .i64 0) := by
  have hb : Blk w' B (ca bu ini li rd) 24 := h.1.out.kept c
  have hr := rowOf_blk hb
  rw [ca_size] at hr
  exact ⟨hb, hr, cell_ca hb 12⟩
set_option maxHeartbeats 1000000 in
theorem new_any (hm : Said.may) (bu ini li rd : Int) (ok : P.Ok bu ini li rd) (w : World) : Calls Tryz.prog 19 #[.agg (ca bu ini li rd)] w fun e w' => ∃ d, e = .returned (.pointer (some ⟨d, 0, none⟩)) ∧ Decider bu ini li rd d [] [] (-1) [] 0 (-1) 0 0 w' (fun k => w.heap.size ≤ k ∧ k < w'.heap.size) ∧ Chg No w w' := by
  have HM := Lib.hid (hm bu ini li rd ok)
  have HN := Lib.hid (Me.new_any hm bu ini li rd ok)
  clear hm ok
  go_enter Tryz.func19, Tryz.ntmps19
  go_wp2_with fail
  have hB : Blk (w.alloc (.cells (ca bu ini li rd) 24)) w.heap.size (ca bu ini li rd) 24 := Blk.new _ _ _
  have HC : Hid (Chg No w (w.alloc (.cells (ca bu ini li rd) 24))) := (Chg.refl No w).alloc _
  generalize w.alloc (.cells (ca bu ini li rd) 24) = w1 at *
  generalize w.heap.size = B at *
  have hr := rowOf_blk hB
  rw [ca_size] at hr
  go_wp2_with (first | (go_at_call 16; refine (HM.out _).mono ?_; rintro e w2 ⟨rfl, hc⟩))
  have hB2 := hB.kept hc
  have hr2 := rowOf_blk hB2
  rw [ca_size] at hr2
  have HC2 := Lib.hid (HC.out.trans hc)
  clear hB hr hc HC HM
  have hS : Hid (Blk w2.drew B (ca bu ini li rd) 24) ∧ rowOf w2.drew B 0 20 = some (.agg (ca bu ini li rd)) ∧ w2.drew.cell? ⟨B, 12, none⟩ = some (.int .i64 0) := ⟨hB2, hr2, cell_ca hB2 12⟩
  go_region_held3 (fun w' => Hid (Blk w' B (ca bu ini li rd) 24) ∧ rowOf w' B 0 20 = some (.agg (ca bu ini li rd)) ∧ w'.cell? ⟨B, 12, none⟩ = some (.int .i64 0)) (first | exact hS | assumption | exact keepC (by assumption) hc3 | exact keepC (by assumption) hc5 | exact keepC (by assumption) ((Chg.refl No _).alloc _)) (first | (go_at_call 40; refine (HN.out _).mono ?_; rintro e w3 ⟨m, rfl, hmet, hc3⟩) | (go_at_call 41; refine (Dl.new_any _).mono ?_; rintro e w4 ⟨rfl, rfl⟩) | (go_at_call 42; refine (calm_any _).mono ?_; rintro e w5 ⟨rfl, hc5⟩))
  · have C3 : Chg No w2 w3 := (Chg.refl No w2).drew.trans hc3
    have z1 := HC2.out.size
    have z2 := C3.size
    have s4 : (w3.alloc (.cells #[.slice none 0 0, .int .i64 0, .int .i64 0] 134)).heap.size = w3.heap.size + 1 := by simp
    have d4 := Dl.new_rep w3
    have g4 := Blk.new (w3.alloc (.cells #[.slice none 0 0, .int .i64 0, .int .i64 0] 134)) (gc m w3.heap.size) 20
    rw [s4] at g4
    have z3 : w3.heap.size + 2 ≤ w5.heap.size := by have := hc5.size; simp at this; omega
    have HR := Lib.hid (rep (w := w5.alloc (.cells (dc bu ini li rd (w3.heap.size + 1) (-1) 0 0) 94)) (d := w5.heap.size) ((Metric.good _ _ _ _ _ _ _ _).kept hmet ((((Chg.refl No w3).alloc _).alloc _).trans (hc5.alloc _))) (by show w2.heap.size ≤ _; omega) ((DelayR.good _ _ _).kept d4 (((Chg.refl No _).alloc _).trans (hc5.alloc _))) (by omega) (by omega) (g4.kept (hc5.alloc _)) (Blk.new _ _ _))
    have HC := Lib.hid (HC2.out.trans (C3.trans ((((Chg.refl No w3).alloc _).alloc _).trans (hc5.alloc (.cells (dc bu ini li rd (w3.heap.size + 1) (-1) 0 0) 94)))))
    clear hmet hc3 hc5 d4 g4
    go_wp2
    go_ret
    exact ⟨_, rfl, ⟨_, _, _, D2.wide.mono HR.out (fun k hk => ⟨Nat.le_trans z1 hk.1, hk.2⟩) fun _ hk => hk.2⟩, HC.out⟩
  · have C3 : Chg No w2 w3 := (Chg.refl No w2).drew.trans hc3
    have z1 := HC2.out.size
    have z2 := C3.size
    have s4 : (w3.alloc (.cells #[.slice none 0 0, .int .i64 0, .int .i64 0] 134)).heap.size = w3.heap.size + 1 := by simp
    have d4 := Dl.new_rep w3
    have g4 := Blk.new w5 (gc m w3.heap.size) 20
    have z3 : w3.heap.size + 1 ≤ w5.heap.size := by have := hc5.size; simp at this; omega
    have s5 : (w5.alloc (.cells (gc m w3.heap.size) 20)).heap.size = w5.heap.size + 1 := by simp
    have e5 := Blk.new (w5.alloc (.cells (gc m w3.heap.size) 20)) (dc bu ini li rd w5.heap.size (-1) 0 0) 94
    rw [s5] at e5
    have HR := Lib.hid (rep (w := (w5.alloc (.cells (gc m w3.heap.size) 20)).alloc (.cells (dc bu ini li rd w5.heap.size (-1) 0 0) 94)) (d := w5.heap.size + 1) (g := w5.heap.size) ((Metric.good _ _ _ _ _ _ _ _).kept hmet (((Chg.refl No w3).alloc _).trans ((hc5.alloc _).alloc _))) (by show w2.heap.size ≤ _; omega) ((DelayR.good _ _ _).kept d4 ((hc5.alloc _).alloc _)) (by omega) (by omega) (g4.kept ((Chg.refl No _).alloc _)) e5)
    have HC := Lib.hid (HC2.out.trans (C3.trans (((Chg.refl No w3).alloc _).trans ((hc5.alloc (.cells (gc m w3.heap.size) 20)).alloc (.cells (dc bu ini li rd w5.heap.size (-1) 0 0) 94)))))
    clear hmet hc3 hc5 d4 g4 e5
    go_wp2
    go_ret
    exact ⟨_, rfl, ⟨_, _, _, D2.wide.mono HR.out (fun k hk => ⟨Nat.le_trans z1 hk.1, hk.2⟩) fun _ hk => hk.2⟩, HC.out⟩
end Go.Proofs.YtdgphoemjeakaaaGreatDoor.De
namespace Go.Proofs.YtdgphoemjeakaaaGreatDoor.De
open Go.RowKit K P U R Me
section
variable {bu ini li rd : Int} {d g m h : Nat} {b0 b1 : List Bk} {newest : Int} {l : List Dl.Wish} {hlast since most last : Int} {w : World} {S : Nat → Prop}
theorem D2.blk (x : D2 bu ini li rd d g m h b0 b1 newest l hlast since most last w S) : Blk w d (dc bu ini li rd g since most last) 94 := by
  obtain ⟨A, h1, _⟩ := Two.left (Two.good (One.good _ _ _) (Two.good (Metric.good _ _ _ _ _ _ _ _) (DelayR.good _ _ _))) x
  exact h1.2.2
theorem D2.own (x : D2 bu ini li rd d g m h b0 b1 newest l hlast since most last w S) : S d := by
  obtain ⟨A, h1, h2, _⟩ := Two.left (Two.good (One.good _ _ _) (Two.good (Metric.good _ _ _ _ _ _ _ _) (DelayR.good _ _ _))) x
  exact h2 _ h1.2.1
theorem D2.gblk (x : D2 bu ini li rd d g m h b0 b1 newest l hlast since most last w S) : Blk w g (gc m h) 20 := by
  obtain ⟨A, h1, _⟩ := Two.right (One.good _ _ _) x
  obtain ⟨A, h1, _⟩ := Two.left (Two.good (Metric.good _ _ _ _ _ _ _ _) (DelayR.good _ _ _)) h1
  exact h1.2.2
theorem D2.cell (x : D2 bu ini li rd d g m h b0 b1 newest l hlast since most last w S) (j : Nat) (v : Value) (since' most' last' : Int) (he : (dc bu ini li rd g since most last).setIfInBounds j v = dc bu ini li rd g since' most' last') :
    D2 bu ini li rd d g m h b0 b1 newest l hlast since' most' last' (w.setCell ⟨d, j, none⟩ v) (K.nx S w (w.setCell ⟨d, j, none⟩ v)) ∧ Chg S w (w.setCell ⟨d, j, none⟩ v) := by
  obtain ⟨A, h1, _, back⟩ := Two.left (Two.good (One.good _ _ _) (Two.good (Metric.good _ _ _ _ _ _ _ _) (DelayR.good _ _ _))) x
  obtain ⟨g1, g2⟩ := h1.set j v
  rw [he] at g1
  exact back _ _ g1 g2
theorem D2.met (x : D2 bu ini li rd d g m h b0 b1 newest l hlast since most last w S) : ∃ A : Nat → Prop, Metric bu ini li rd m b0 b1 newest w A ∧ ∀ (b0' b1' : List Bk) (newest' : Int) (w' : World), Metric bu ini li rd m b0' b1' newest' w' (K.nx A w w') → Chg A w w' →
    D2 bu ini li rd d g m h b0' b1' newest' l hlast since most last w' (K.nx S w w') ∧ Chg S w w' := by
  obtain ⟨A, h1, _, back⟩ := Two.right (One.good _ _ _) x
  obtain ⟨A2, h2, _, back2⟩ := Two.right (One.good _ _ _) h1
  obtain ⟨A3, h3, _, back3⟩ := Two.left (DelayR.good _ _ _) h2
  refine ⟨A3, h3, fun b0' b1' newest' w' hm hc => ?_⟩
  obtain ⟨g1, g2⟩ := back3 _ w' hm hc
  obtain ⟨g1, g2⟩ := back2 _ w' g1 g2
  exact back _ w' g1 g2
theorem D2.del (x : D2 bu ini li rd d g m h b0 b1 newest l hlast since most last w S) : ∃ A : Nat → Prop, Dl.Delay w A h l hlast ∧ ∀ (l' : List Dl.Wish) (hlast' : Int) (w' : World), Dl.Delay w' (K.nx A w w') h l' hlast' → Chg A w w' →
    D2 bu ini li rd d g m h b0 b1 newest l' hlast' since most last w' (K.nx S w w') ∧ Chg S w w' := by
  obtain ⟨A, h1, _, back⟩ := Two.right (One.good _ _ _) x
  obtain ⟨A2, h2, _, back2⟩ := Two.right (One.good _ _ _) h1
  obtain ⟨A3, h3, _, back3⟩ := Two.right (Metric.good _ _ _ _ _ _ _ _) h2
  refine ⟨A3, h3, fun l' hlast' w' hm hc => ?_⟩
  obtain ⟨g1, g2⟩ := back3 (DelayR h l' hlast') w' hm hc
  obtain ⟨g1, g2⟩ := back2 _ w' g1 g2
  exact back _ w' g1 g2
end
set_option maxHeartbeats 1000000 in
theorem metric_any (bu ini li rd : Int) (d g m h : Nat) (since most last : Int) (w : World) (hd : Blk w d (dc bu ini li rd g since most last) 94) (hg : Blk w g (gc m h) 20) : Calls Tryz.prog 67 #[.pointer (some ⟨d, 0, none⟩)] w fun e w' => e = .returned (.pointer (some ⟨m, 0, none⟩)) ∧ Chg No w w' := by
  have c := Blk.cell hd 20
  rw [dc_20] at c
  have c0 : w.cell? ⟨g, 0, none⟩ = some (.iface 86 (.pointer (some ⟨m, 0, none⟩))) := Blk.cell hg 0
  clear hd hg
  go_enter Tryz.func67, Tryz.ntmps67
  go_wp2
  go_ret
  exact ⟨rfl, Chg.refl _ _⟩
set_option maxHeartbeats 1000000 in
theorem holds_any (bu ini li rd : Int) (d g m h : Nat) (since most last : Int) (w : World) (hd : Blk w d (dc bu ini li rd g since most last) 94) (hg : Blk w g (gc m h) 20) : Calls Tryz.prog 88 #[.pointer (some ⟨d, 0, none⟩)] w fun e w' => e = .returned (.pointer (some ⟨h, 0, none⟩)) ∧ Chg No w w' := by
  have c := Blk.cell hd 20
  rw [dc_20] at c
  have c0 : w.cell? ⟨g, 1, none⟩ = some (.iface 88 (.pointer (some ⟨h, 0, none⟩))) := Blk.cell hg 1
  clear hd hg
  go_enter Tryz.func88, Tryz.ntmps88
  go_wp2
  go_ret
  exact ⟨rfl, Chg.refl _ _⟩
set_option maxHeartbeats 1000000 in
theorem put_any (bu ini li rd : Int) (d : Nat) (b0 b1 : List Bk) (newest : Int) (l : List Dl.Wish) (hlast since most last t val : Int) (w : World) (S : Nat → Prop) (x : Decider bu ini li rd d b0 b1 newest l hlast since most last w S) (f0 : Me.Fine newest b0) (f1 : Me.Fine newest b1) (h0 : -1 ≤ newest) (t0 : newest < t) (t1 : t ≤ 1099511627776) (v0 : 0 ≤ val) (v1 : val ≤ 1125899906842624) :
    Calls Tryz.prog 60 #[.pointer (some ⟨d, 0, none⟩), .int .i64 t, .int .i64 val] w fun e w' => e = .returned (.int .i64 0) ∧ Decider bu ini li rd d (putB 60 t val b0) (putB 6 t val b1) t l hlast since most last w' (K.nx S w w') ∧ Chg S w w' := by
  obtain ⟨g, m, h, x⟩ := x
  have H := Lib.hid x
  clear x
  go_enter Tryz.func60, Tryz.ntmps60
  go_wp2_with fail
  refine (metric_any bu ini li rd d g m h since most last w H.out.blk H.out.gblk).mono ?_
  rintro e w1 ⟨rfl, hc1⟩
  have H1 := Lib.hid (D2.wide.nx D2.good H.out hc1)
  have C1 := Lib.hid (hc1.of_no (S := S))
  clear H hc1
  go_wp2_with fail
  obtain ⟨A, hm, back⟩ := H1.out.met
  have HB := Lib.hid back
  clear back
  refine (Me.put_m bu ini li rd m b0 b1 newest t val w1 A hm f0 f1 h0 t0 t1 v0 v1).mono ?_
  rintro e w2 ⟨rfl, h2, hc2⟩
  obtain ⟨g1, g2⟩ := HB.out _ _ _ w2 h2 hc2
  have H2 := Lib.hid (D2.wide.nn g1 C1.out.size)
  have C2 := Lib.hid (C1.out.next g2)
  clear H1 C1 h2 hc2 g1 g2 HB hm
  go_wp2_with fail
  go_ret
  exact ⟨rfl, ⟨g, m, h, H2.out⟩, C2.out⟩
set_option maxHeartbeats 1000000 in
theorem over_any (bu ini li rd : Int) (d : Nat) (b0 b1 : List Bk) (newest : Int) (l : List Dl.Wish) (hlast since most last : Int) (w : World) (S : Nat → Prop) (x : Decider bu ini li rd d b0 b1 newest l hlast since most last w S) :
    Calls Tryz.prog 36 #[.pointer (some ⟨d, 0, none⟩)] w fun e w' => e = .returned (.bool false) ∧ Chg No w w' := by
  obtain ⟨g, m, h, x⟩ := x
  have H := Lib.hid x
  clear x
  go_enter Tryz.func36, Tryz.ntmps36
  go_wp2_with fail
  refine (metric_any bu ini li rd d g m h since most last w H.out.blk H.out.gblk).mono ?_
  rintro e w1 ⟨rfl, hc1⟩
  have H1 := Lib.hid (D2.good.kept H.out hc1)
  have C1 := Lib.hid hc1
  clear H hc1
  go_wp2_with fail
  obtain ⟨A, hm, _⟩ := H1.out.met
  refine (Me.over_m bu ini li rd m b0 b1 newest w1 A hm).mono ?_
  rintro e w2 ⟨rfl, hc2⟩
  have C2 := Lib.hid (C1.out.trans hc2)
  clear hc2 hm
  go_wp2_with fail
  go_ret
  exact ⟨rfl, C2.out⟩
end Go.Proofs.YtdgphoemjeakaaaGreatDoor.De
namespace Go.Proofs.YtdgphoemjeakaaaGreatDoor.P
open Go.RowKit K
def mayGo (since now mean waiting busy : Int) : Bool := mean == 0 && (waiting == 0 && (busy == 0 && (decide (0 ≤ since) && (decide (since ≤ now) && decide (30 ≤ now - since)))))
def wantAt (since now want have_ mean waiting busy : Int) : Int := if 0 < want then want else if (have_ == 0 && waiting == 0) || mayGo since now mean waiting busy then 0 else 1
set_option maxHeartbeats 1000000 in
theorem there_burst (n : Int) (w : World) (n0 : 0 ≤ n) (n1 : n ≤ 1000) : Calls Tryz.prog 48 #[.iface 3 (.int .i64 n)] w fun e w' => e = .returned (.int .i64 n) ∧ w = w' := by
  go_enter Tryz.func48, Tryz.ntmps48
  go_wp2
  all_goals
    go_ret
    exact ⟨ret_int (by omega), rfl⟩
def excess (bu li ready quick : Int) : Int := if bu == -1000 then -1000 else ready * li * 1000 - quick - bu
end Go.Proofs.YtdgphoemjeakaaaGreatDoor.P
namespace Go.Proofs.YtdgphoemjeakaaaGreatDoor.P
open Go.RowKit K
set_option maxRecDepth 100000
set_option maxHeartbeats 4000000 in
theorem excess_any (hm : Said.may) (bu ini li rd : Int) (ok : Ok bu ini li rd) (ready quick : Int) (w : World) (r0 : 0 ≤ ready) (r1 : ready ≤ 1000) (q0 : 0 ≤ quick) (q1 : quick ≤ 1152921504606846976) : Calls Tryz.prog 25 #[.agg (ca bu ini li rd), .int .i64 ready, .int .i64 quick] w fun e w' => e = .returned (.int .i64 (excess bu li ready quick)) ∧ Chg No w w' := by
  have HM := Lib.hid (hm bu ini li rd ok)
  obtain ⟨hbu, _, ⟨l0, l1⟩, _⟩ := ok
  clear hm
  have HT := Lib.hid fun w => there_burst ready w r0 r1
  obtain ⟨m, hm⟩ : ∃ m, ready * li = m := ⟨_, rfl⟩
  have m0 : 0 ≤ m := by rw [← hm]; exact Int.mul_nonneg r0 (by omega)
  have m1 : m ≤ 1000000 := by
    rw [← hm]
    have h1 : ready * li ≤ 1000 * li := Int.mul_le_mul_of_nonneg_right r1 (by omega)
    omega
  have w1' : IntKind.i64.wrap (ready * li) = m := by rw [hm, IntKind.wrap_i64]; omega
  have HE : Hid (excess bu li ready quick = if bu == -1000 then -1000 else m * 1000 - quick - bu) := by show _ = _; unfold excess; rw [hm]
  clear hm
  have HS1 := Lib.hid fun w => sub_any (m * 1000) quick w (by omega) (by omega) (by omega) (by omega)
  go_enter Tryz.func25, Tryz.ntmps25
  go_wp2_with fail
  refine (HM.out _).mono ?_
  rintro e w1 ⟨rfl, hc⟩
  have hB := (Blk.new w (ca bu ini li rd) 24).kept hc
  have HB := Lib.hid hB
  have c13 : w1.cell? ⟨w.heap.size, 13, none⟩ = some (.int .i64 bu) := cell_ca hB 13
  have c14 : w1.cell? ⟨w.heap.size, 14, none⟩ = some (.int .i64 li) := cell_ca hB 14
  have HC := Lib.hid (((Chg.refl No w).alloc _).trans hc)
  clear hB hc
  rcases hbu with rfl | ⟨b0, b1⟩
  · go_wp2
    go_ret
    exact ⟨by rw [HE.out]; rfl, HC.out⟩
  · have kb : (bu == -1000) = false := beq_eq_false_iff_ne.2 (by omega)
    rw [kb] at HE
    have HS2 := Lib.hid fun w => sub_any (m * 1000 - quick) bu w (by omega) (by omega) (by omega) (by omega)
    go_wp2_with fail
    go_quiet (first | (go_at_call 48; with_reducible exact quiet_left (HT.out _)) | (go_at_call 47; with_reducible exact quiet_left (HS1.out _)))
    go_wp2_with (go_at_call 47; refine (HS2.out _).mono ?_; rintro e w' ⟨rfl, rfl⟩)
    go_ret
    exact ⟨by rw [HE.out]; rfl, HC.out.drewN _⟩
def proxy (bu ready ex : Int) : Bool := bu == -1000 || (decide (ready < 1) || (decide (0 < bu) && decide (ex < 0)))
end Go.Proofs.YtdgphoemjeakaaaGreatDoor.P
namespace Go.Proofs.YtdgphoemjeakaaaGreatDoor.De
open Go.RowKit K P U R Me
theorem row_dc {w : World} {bu ini li rd : Int} {d g : Nat} {since most last : Int} (h : Blk w d (dc bu ini li rd g since most last) 94) : rowOf w d 0 20 = some (.agg (ca bu ini li rd)) := by
  rw [← ca_size bu ini li rd]
  refine rowOf_of fun j hj => ?_
  rw [Nat.zero_add, h.cell]
  exact Array.getElem?_append_left hj
def Kp (bu ini li rd : Int) (d g : Nat) (since most last : Int) (w1 w' : World) : Prop := Chg No w1 w' ∧ Blk w' d (dc bu ini li rd g since most last) 94
theorem Kp.step {bu ini li rd : Int} {d g : Nat} {since most last : Int} {w1 w2 w3 : World} (hc : Chg No w2 w3) (h : Hid (Kp bu ini li rd d g since most last w1 w2) ∧ rowOf w2 d 0 20 = some (.agg (ca bu ini li rd))) :
    Hid (Kp bu ini li rd d g since most last w1 w3) ∧ rowOf w3 d 0 20 = some (.agg (ca bu ini li rd)) := by
  have hb := h.1.out.2.kept hc
  exact ⟨⟨h.1.out.1.trans hc, hb⟩, row_dc hb⟩
theorem Kp.start {bu ini li rd : Int} {d g : Nat} {since most last : Int} {w1 : World} (h : Blk w1 d (dc bu ini li rd g since most last) 94) :
    Hid (Kp bu ini li rd d g since most last w1 w1.drew) ∧ rowOf w1.drew d 0 20 = some (.agg (ca bu ini li rd)) := ⟨⟨(Chg.refl No w1).drew, h⟩, row_dc h⟩
def zz : Array Value := #[.int .i64 0, .int .i64 0, .int .i64 0, .int .i64 0, .bool false, .int .i64 0]
def Nx (bu ini li rd : Int) (d g m h : Nat) (w0 : World) (S : Nat → Prop) (B : Nat) (b0 b1 : List Bk) (newest : Int) (l : List Dl.Wish) (hlast since most last : Int) (w : World) : Prop :=
  ∃ A : Nat → Prop, D2 bu ini li rd d g m h b0 b1 newest l hlast since most last w A ∧ ¬ A B ∧ Blk w B zz 63 ∧ (∀ k, A k → S k ∨ w0.heap.size ≤ k) ∧ Chg S w0 w
section
variable {bu ini li rd : Int} {d g m h : Nat} {w0 : World} {S : Nat → Prop} {B : Nat} {b0 b1 : List Bk} {newest : Int} {l : List Dl.Wish} {hlast since most last : Int} {w w' : World}
theorem Nx.no (x : Nx bu ini li rd d g m h w0 S B b0 b1 newest l hlast since most last w) (c : Chg No w w') : Nx bu ini li rd d g m h w0 S B b0 b1 newest l hlast since most last w' := by
  obtain ⟨A, h1, h2, h3, h4, h5⟩ := x
  exact ⟨A, D2.good.kept h1 c, h2, h3.kept c, h4, h5.trans c.of_no⟩
theorem Nx.mk' {A : Nat → Prop} {b0' b1' : List Bk} {newest' : Int} {l' : List Dl.Wish} {hlast' since' most' last' : Int} (h2 : ¬ A B) (h3 : Blk w B zz 63) (h4 : ∀ k, A k → S k ∨ w0.heap.size ≤ k) (h5 : Chg S w0 w) (hd : D2 bu ini li rd d g m h b0' b1' newest' l' hlast' since' most' last' w' (K.nx A w w')) (c : Chg A w w') :
    Nx bu ini li rd d g m h w0 S B b0' b1' newest' l' hlast' since' most' last' w' :=
  ⟨K.nx A w w', hd, fun hB => hB.1.elim h2 (by have := h3.lt; omega), h3.chg c h2, fun k hk => hk.1.elim (h4 k) (fun hk => .inr (Nat.le_trans h5.size hk)), h5.step c fun k hk ha => (h4 k ha).elim id (by omega)⟩
theorem Nx.cell (x : Nx bu ini li rd d g m h w0 S B b0 b1 newest l hlast since most last w) (j : Nat) (v : Value) (since' most' last' : Int) (he : (dc bu ini li rd g since most last).setIfInBounds j v = dc bu ini li rd g since' most' last') :
    Nx bu ini li rd d g m h w0 S B b0 b1 newest l hlast since' most' last' (w.setCell ⟨d, j, none⟩ v) := by
  obtain ⟨A, h1, h2, h3, h4, h5⟩ := x
  obtain ⟨g1, g2⟩ := h1.cell j v since' most' last' he
  exact Nx.mk' h2 h3 h4 h5 g1 g2
theorem Nx.met (x : Nx bu ini li rd d g m h w0 S B b0 b1 newest l hlast since most last w) : ∃ A : Nat → Prop, Metric bu ini li rd m b0 b1 newest w A ∧ ∀ (b0' b1' : List Bk) (newest' : Int) (w' : World), Metric bu ini li rd m b0' b1' newest' w' (K.nx A w w') → Chg A w w' →
    Nx bu ini li rd d g m h w0 S B b0' b1' newest' l hlast since most last w' := by
  obtain ⟨A, h1, h2, h3, h4, h5⟩ := x
  obtain ⟨C, hm, back⟩ := h1.met
  refine ⟨C, hm, fun b0' b1' newest' w' hm' hc => ?_⟩
  obtain ⟨g1, g2⟩ := back _ _ _ w' hm' hc
  exact Nx.mk' h2 h3 h4 h5 g1 g2
theorem Nx.del (x : Nx bu ini li rd d g m h w0 S B b0 b1 newest l hlast since most last w) : ∃ A : Nat → Prop, Dl.Delay w A h l hlast ∧ ∀ (l' : List Dl.Wish) (hlast' : Int) (w' : World), Dl.Delay w' (K.nx A w w') h l' hlast' → Chg A w w' →
    Nx bu ini li rd d g m h w0 S B b0 b1 newest l' hlast' since most last w' := by
  obtain ⟨A, h1, h2, h3, h4, h5⟩ := x
  obtain ⟨C, hm, back⟩ := h1.del
  refine ⟨C, hm, fun l' hlast' w' hm' hc => ?_⟩
  obtain ⟨g1, g2⟩ := back _ _ w' hm' hc
  exact Nx.mk' h2 h3 h4 h5 g1 g2
theorem Nx.blk (x : Nx bu ini li rd d g m h w0 S B b0 b1 newest l hlast since most last w) : Blk w d (dc bu ini li rd g since most last) 94 := x.choose_spec.1.blk
theorem Nx.gblk (x : Nx bu ini li rd d g m h w0 S B b0 b1 newest l hlast since most last w) : Blk w g (gc m h) 20 := x.choose_spec.1.gblk
theorem Nx.res (x : Nx bu ini li rd d g m h w0 S B b0 b1 newest l hlast since most last w) : Blk w B zz 63 := x.choose_spec.2.2.1
theorem Nx.c21 (x : Nx bu ini li rd d g m h w0 S B b0 b1 newest l hlast since most last w) : w.cell? ⟨d, 21, none⟩ = some (.int .i64 since) := by
  rw [x.blk.cell]; rfl
theorem Nx.c22 (x : Nx bu ini li rd d g m h w0 S B b0 b1 newest l hlast since most last w) : w.cell? ⟨d, 22, none⟩ = some (.int .i64 most) := by
  rw [x.blk.cell]; rfl
theorem Nx.done (x : Nx bu ini li rd d g m h w0 S B b0 b1 newest l hlast since most last w) (hB : w0.heap.size ≤ B) (cs : Array Value) :
    D2 bu ini li rd d g m h b0 b1 newest l hlast since most last (w.setRow B cs) (K.nx S w0 (w.setRow B cs)) ∧ Chg S w0 (w.setRow B cs) := by
  obtain ⟨A, h1, h2, h3, h4, h5⟩ := x
  have c1 : Chg (fun k => k = B) w (w.setRow B cs) := (Chg.refl (fun k => k = B) w).setRow (fun _ => rfl) cs
  have d1 := D2.good.chg h1 c1 (fun k ha hk => h2 (hk ▸ ha))
  exact ⟨D2.wide.mono d1 (fun k hk => ⟨h4 k hk, D2.good.bd d1 k hk⟩) fun _ hk => hk.2, h5.setRow (fun hb => absurd hb (by omega)) cs⟩
theorem Nx.start {x : D2 bu ini li rd d g m h b0 b1 newest l hlast since most last w0 S} (now : Int) : Nx bu ini li rd d g m h w0 S w0.heap.size b0 b1 newest l hlast since most now ((w0.setCell ⟨d, 23, none⟩ (.int .i64 now)).alloc (.cells zz 63)) := by
  obtain ⟨g1, g2⟩ := x.cell 23 (.int .i64 now) since most now (dc_set23 ..)
  have hs : (w0.setCell ⟨d, 23, none⟩ (.int .i64 now)).heap.size = w0.heap.size := by simp [World.setCell]
  refine ⟨_, D2.good.kept g1 ((Chg.refl No _).alloc _), fun hB => ?_, ?_, fun k hk => hk.1, g2.alloc _⟩
  · have := hB.2; omega
  · have := Blk.new (w0.setCell ⟨d, 23, none⟩ (.int .i64 now)) zz 63
    rwa [hs] at this
end
theorem meanB_bd {n t newest : Int} {bs : List Bk} (f : Me.Fine newest bs) : 0 ≤ meanB n t bs ∧ meanB n t bs ≤ 1152921504606846976 := by
  obtain ⟨s0, s1⟩ := sumB_bd n t bs fun b hb => (f.2 b hb).2
  obtain ⟨n0, n1⟩ := numB_bd n t bs
  have := f.1
  unfold meanB
  split
  · omega
  · have := Int.ediv_nonneg s0 n0
    have := Int.ediv_le_self (a := sumB n t bs) (numB n t bs) s0
    omega
structure Dn where
  stable : Int
  quick : Int
  want : Int
  panic : Bool
  excess : Int
  l : List Dl.Wish
  since : Int
  most : Int
def nextD (bu li : Int) (b0 b1 : List Bk) (l : List Dl.Wish) (since most now ready : Int) : Dn :=
  let st := meanB 60 now b0
  let qu := meanB 6 now b1
  let md := nextMode since most now (over (wantOf qu) ready)
  let n0 := limit (wantOf st) ready
  let n1 := if 0 ≤ md.1 then max n0 (limit (wantOf qu) ready) else n0
  let l' := G.kept (Dl.far now) l ++ [(now, n1)]
  let kp := keep md.1 md.2 (Dl.mostD now l')
  { stable := st, quick := qu, want := max (min kp.2 100) 0, panic := decide (0 ≤ md.1), excess := excess bu li ready qu, l := l', since := md.1, most := kp.1 }
def Kq (bu ini li rd : Int) (d g : Nat) (last : Int) (w' : World) : Prop := ∃ s m, Blk w' d (dc bu ini li rd g s m last) 94
theorem Kq.step {bu ini li rd : Int} {d g : Nat} {last : Int} {w2 w3 : World} (hc : Chg No w2 w3) (h : Hid (Kq bu ini li rd d g last w2) ∧ rowOf w2 d 0 20 = some (.agg (ca bu ini li rd))) :
    Hid (Kq bu ini li rd d g last w3) ∧ rowOf w3 d 0 20 = some (.agg (ca bu ini li rd)) := by
  obtain ⟨s, m, hb⟩ := h.1.out
  have hb := hb.kept hc
  exact ⟨⟨s, m, hb⟩, row_dc hb⟩
theorem Kq.store {bu ini li rd : Int} {d g : Nat} {last x y : Int} {w2 : World} (h : Hid (Kq bu ini li rd d g last w2) ∧ rowOf w2 d 0 20 = some (.agg (ca bu ini li rd))) :
    Hid (Kq bu ini li rd d g last ((w2.setCell ⟨d, 21, none⟩ (.int .i64 x)).setCell ⟨d, 22, none⟩ (.int .i64 y))) ∧ rowOf ((w2.setCell ⟨d, 21, none⟩ (.int .i64 x)).setCell ⟨d, 22, none⟩ (.int .i64 y)) d 0 20 = some (.agg (ca bu ini li rd)) := by
  obtain ⟨s, m, hb⟩ := h.1.out
  have hb := (hb.set 21 (.int .i64 x)).set 22 (.int .i64 y)
  rw [dc_set21, dc_set22] at hb
  exact ⟨⟨x, y, hb⟩, row_dc hb⟩
theorem Kq.start {bu ini li rd : Int} {d g : Nat} {since most last : Int} {w1 : World} (h : Blk w1 d (dc bu ini li rd g since most last) 94) :
    Hid (Kq bu ini li rd d g last w1.drew) ∧ rowOf w1.drew d 0 20 = some (.agg (ca bu ini li rd)) := ⟨⟨since, most, h⟩, row_dc h⟩
end Go.Proofs.YtdgphoemjeakaaaGreatDoor.De
namespace Go.Proofs.YtdgphoemjeakaaaGreatDoor.S
open Go.RowKit K P
set_option maxRecDepth 100000
def size (n : Nat) : Nat := if n ≤ 3 then n else max 3 ((17 * n + 12) / (n + 13))
theorem size_bd (n : Nat) : size n ≤ n ∧ size n ≤ 17 := by
  unfold size
  split
  · omega
  · have h1 : (17 * n + 12) / (n + 13) ≤ 16 := by
      have : (17 * n + 12) / (n + 13) < 17 := (Nat.div_lt_iff_lt_mul (by omega)).2 (by omega)
      omega
    have h2 : (17 * n + 12) / (n + 13) ≤ n := by
      have : (17 * n + 12) / (n + 13) < n + 1 := (Nat.div_lt_iff_lt_mul (by omega)).2 (by
        have h5 : n * n ≥ 4 * n := Nat.mul_le_mul_right n (by omega)
        rw [Nat.add_mul, Nat.mul_add]
        omega)
      omega
    omega
set_option maxHeartbeats 1000000 in
theorem size_any (n : Nat) (w : World) (hn : n ≤ 200) : Calls Tryz.prog 130 #[.int .i64 n] w fun e w' => e = .returned (.int .i64 (size n)) ∧ w = w' := by
  by_cases h0 : n < 1
  · have e : size n = 0 := by unfold size; rw [if_pos (by omega)]; omega
    have k : decide ((n : Int) < 1) = true := decide_eq_true (by omega)
    rw [e]
    clear e
    go_enter Tryz.func130, Tryz.ntmps130
    go_wp2
    go_ret
    exact ⟨rfl, rfl⟩
  · have k : decide ((n : Int) < 1) = false := decide_eq_false (by omega)
    by_cases h3 : n ≤ 3
    · have e : size n = n := by unfold size; rw [if_pos h3]
      have k2 : decide ((n : Int) ≤ 3) = true := decide_eq_true (by omega)
      rw [e]
      clear e
      go_enter Tryz.func130, Tryz.ntmps130
      go_wp2
      go_ret
      exact ⟨rfl, rfl⟩
    · have e : size n = max 3 ((17 * n + 12) / (n + 13)) := by unfold size; rw [if_neg h3]
      have k2 : decide ((n : Int) ≤ 3) = false := decide_eq_false (by omega)
      have k3 : decide ((208 : Int) < n) = false := decide_eq_false (by omega)
      obtain ⟨q, hq⟩ : ∃ q, (17 * n + 12) / (n + 13) = q := ⟨_, rfl⟩
      have q1 : q ≤ 200 * 17 + 12 := by rw [← hq]; exact Nat.le_trans (Nat.div_le_self _ _) (by omega)
      have hz : ¬ (n : Int) + 13 = 0 := by omega
      have hd : ((17 * (n : Int) + 12).tdiv ((n : Int) + 13)) = q := by
        rw [Int.tdiv_eq_ediv_of_nonneg (by omega), ← hq]
        simp
      have hw : IntKind.i64.wrap ((16 * (n : Int) + n + 13 - 1).tdiv ((n : Int) + 13)) = q := by
        rw [show 16 * (n : Int) + n + 13 - 1 = 17 * n + 12 by omega, hd, IntKind.wrap_i64]
        omega
      rw [e, hq]
      clear e hq hd
      go_enter Tryz.func130, Tryz.ntmps130
      go_wp2
      all_goals
        go_ret
        exact ⟨P.ret_int (by omega), rfl⟩
def whichAt (ids : List Int) (r : Int) (i : Nat) : Int := ids.getD (((r % ids.length) * (size ids.length) + i) % ids.length).toNat 0
def which (ids : List Int) (r : Int) : List Int := (List.range (size ids.length)).map (whichAt ids r)
set_option maxHeartbeats 2000000 in
theorem which_any (w : World) (S : Nat → Prop) (v : Value) (ids : List Int) (own : Own w S 3 1 v ids.length (ids.map (Value.int .i64))) (hn : ids.length ≤ 200) (r : Int) (r0 : 0 ≤ r) (r1 : r ≤ 1099511627776) :
    Calls Tryz.prog 91 #[v, .int .i64 0, .int .i64 r] w fun e w' => ∃ v', e = .returned v' ∧ Own w' (New w) 3 1 v' (which ids r).length ((which ids r).map (Value.int .i64)) ∧ Chg No w w' := by
  obtain ⟨i0, hi, hz0, hz1, hz2⟩ := info_parts (P := Tryz.prog) (e := 3) (z := .int .i64 0) (size := 1) (bytes := 8) (by kernel_rfl)
  obtain ⟨va, cap, rfl⟩ := own.sl
  have HO := Lib.hid own
  clear own
  obtain ⟨s0, s1⟩ := size_bd ids.length
  have HZ := Lib.hid fun w => size_any ids.length w hn
  have HWL : Hid ((which ids r).length = size ids.length) := by show _ = _; simp [which]
  have HWT : Hid (∀ n, n < size ids.length → (which ids r).take (n + 1) = (which ids r).take n ++ [whichAt ids r n]) := by
    intro n hn
    rw [List.take_add_one]
    congr 1
    simp [which, hn]
  have HWA : Hid (∀ n, whichAt ids r n = ids.getD (((r % ids.length) * (size ids.length) + n) % ids.length).toNat 0) := fun n => rfl
  generalize hks : size ids.length = k at *
  clear hks
  go_enter Tryz.func91, Tryz.ntmps91
  go_wp2_with (go_at_call 130; refine (HZ.out _).mono ?_; rintro e w' ⟨rfl, rfl⟩)
  go_loopw [9, 27] (fun o i wr => ∃ n : Nat, n ≤ k ∧ i = .int .i64 n ∧ Own wr (New w) 3 1 o n (((which ids r).take n).map (Value.int .i64)) ∧ Chg No w wr) (fun _ i _ => k - (intOf i).toNat)
  case atStart => exact ⟨0, Nat.zero_le _, rfl, Own.nil _ _ _ _, Chg.refl _ _⟩
  case round =>
    obtain ⟨n, hk, rfl, ho, hc⟩ := hrel
    by_cases hlt : n < k
    · obtain ⟨g, o, rfl, hS, hg, hcap, hmax⟩ := HO.out.some_ (by omega)
      obtain ⟨a, ha⟩ : ∃ a, r % (ids.length : Int) = a := ⟨_, rfl⟩
      have a0 : 0 ≤ a := by rw [← ha]; exact Int.emod_nonneg _ (by omega)
      have a1 : a < ids.length := by rw [← ha]; exact Int.emod_lt_of_pos _ (by omega)
      obtain ⟨p, hp⟩ : ∃ p, a * (k : Int) = p := ⟨_, rfl⟩
      have p0 : 0 ≤ p := by rw [← hp]; exact Int.mul_nonneg a0 (by omega)
      have p1 : p ≤ 4000 := by
        rw [← hp]
        have h1 : a * (k : Int) ≤ 200 * k := Int.mul_le_mul_of_nonneg_right (by omega) (by omega)
        omega
      obtain ⟨j, hj⟩ : ∃ j : Nat, (p + (n : Int)) % (ids.length : Int) = j := ⟨((p + (n : Int)) % (ids.length : Int)).toNat, (Int.toNat_of_nonneg (Int.emod_nonneg _ (by omega))).symm⟩
      have j1 : j < ids.length := by
        have := Int.emod_lt_of_pos (p + (n : Int)) (b := (ids.length : Int)) (by omega)
        omega
      have hx : whichAt ids r n = ids[j] := by
        rw [HWA.out, ha, hp, hj, Int.toNat_natCast]
        simp [List.getD, j1]
      have hc0 : wr.cell? ⟨g, o + j, none⟩ = some (.int .i64 (whichAt ids r n)) := by
        rw [(HO.out.kept hc).cellAt j (by omega), List.getElem?_map, List.getElem?_eq_getElem j1, hx]
        rfl
      have HT := Lib.hid (HWT.out n hlt)
      generalize whichAt ids r n = x at *
      have hz : ¬ (ids.length : Int) = 0 := by omega
      have e2 : wrap64 (a * (k : Int)) = p := by rw [hp]; unfold wrap64; omega
      have e3 : (p + (n : Int)).tmod (ids.length : Int) = j := by rw [Int.tmod_eq_emod_of_nonneg (by omega), hj]
      have HO2 := Lib.hid ho
      have HC := Lib.hid hc
      clear hp hx ho hc hS hmax
      go_wp2_with (at_builtin; refine wpList_app _ rfl _ _ 76 rfl (New w) 3 i0 _ 1 8 Tryz.underlying76 hi hz0 hz1 hz2 rfl _ _ _ rfl (HO2.out.alloc _) ⟨wr.heap.size, 0, none⟩ 1 1 [.int .i64 x] rfl (by decide) rfl (built_at (by simp)) (by simp [Value.oneCell']) (by simp only [maxLen]; omega) (by omega) ?_; intro g2 o2 c2 w' ho' hc')
      go_roundw
      case rel =>
        obtain ⟨h1, h2⟩ := fresh_app HC.out ho' hc'
        exact ⟨n + 1, by omega, by go_num, by rw [HT.out, List.map_append]; exact h1, h2⟩
      case measure => simp [intOf]; omega
    · obtain rfl : n = k := by omega
      rw [List.take_of_length_le (by rw [HWL.out]; exact Nat.le_refl _)] at ho
      go_wp2
      go_ret
      exact ⟨_, rfl, by rw [HWL.out]; exact ho, hc⟩
end Go.Proofs.YtdgphoemjeakaaaGreatDoor.S
