/- The whole service: regions that draw their order. Package event: of, May. The whole service: Do. The whole service: regions that draw their order. -/
import Derived.Test.YtdgphoemjeakaaaGreatDoorQ11
import Derived.Test.YtdgphoemjeakaaaGreatDoorQ09
import Derived.Test.YtdgphoemjeakaaaGreatDoorQ03
import Derived.Handy
import Derived.Test.YtdgphoemjeakaaaGreatDoorQ20
/-! The whole service: regions that draw their order. -/
namespace Go.Proofs.YtdgphoemjeakaaaGreatDoor.Y
open Go.RowKit Go.Proofs.YtdgphoemjeakaaaGreatDoor.K Go.Proofs.YtdgphoemjeakaaaGreatDoor.P Go.Proofs.YtdgphoemjeakaaaGreatDoor.W Go.Proofs.YtdgphoemjeakaaaGreatDoor.Rg
set_option maxRecDepth 100000

noncomputable def R_do18 : Array Oper := reg Tryz.f12 18
theorem do18_size : R_do18.size = 12 := by kernel_rfl
theorem do18_acyc : acycB R_do18 = true := by kernel_rfl
/-- What the operations lay. -/
noncomputable def lay_do18 (p : Nat) (B : Nat) (lo : Int) (ev : Int) (_ : Unit) : Lay := [(some 43, .pointer (some ⟨p, 0, none⟩)),
  (some 44, .pointer (some ⟨p, 0, none⟩)),
  (some 45, .pointer (some ⟨p, 0, none⟩)),
  (some 46, .pointer (some ⟨p, 32, none⟩)),
  (some 47, .int .i64 lo),
  (some 48, .pointer (some ⟨B, 1, none⟩)),
  (some 49, .int .i64 ev),
  (some 50, .int .i64 (lo + ev)),
  (some 51, .int .i64 (min (lo + ev) 1000)),
  (some 52, .pointer (some ⟨p, 0, none⟩)),
  (some 53, .pointer (some ⟨p, 32, none⟩)),
  (none, undef)]
theorem do18_dsts (p : Nat) (B : Nat) (lo : Int) (ev : Int) (x : Unit) : dsts (lay_do18 p B lo ev x) = [43, 44, 45, 46, 47, 48, 49, 50, 51, 52, 53] := rfl
theorem do18_nodup (p : Nat) (B : Nat) (lo : Int) (ev : Int) (x : Unit) : (dsts (lay_do18 p B lo ev x)).Nodup := by rw [do18_dsts]; decide
section
variable (p : Nat) (B : Nat) (lo : Int) (ev : Int) (X : (Unit) → Bool → World → Prop)
theorem do18_0 (hq0 : 0 ≤ lo) (hq1 : lo ≤ 1000) (hq2 : 0 ≤ ev) (hq3 : ev ≤ 1000) (t0 : Array Value) (hz : t0.size = 71) (ht0 : t0[0]? = some (.pointer (some ⟨p, 0, none⟩))) (Q : Exit → Act → World → Prop) : RStepX Tryz.prog R_do18 (lay_do18 p B lo ev) t0 (fun x L => X x (L 11)) Q 0 := by
  intro x L o a w ho hL hd hI
  have _ := hq3
  have _ := hq2
  have _ := hq1
  have _ := hq0
  have f0 : a.tmps[0]? = some (.pointer (some ⟨p, 0, none⟩)) := hI.from ht0 rfl
  have h : R_do18[0]? = some R_do18[0] := rfl
  conv at h => rhs; arg 1; whnf
  simp only [wpOp, h]
  rw [if_pos (by rfl)]
  left
  go_simp
  exact ⟨x, hI.put (do18_nodup p B lo ev _) 0 ho hd _ _ _ rfl (.inr (rfl)) (by intro e he; cases he; exact hz ▸ (by decide : (43 : Nat) < 71)) hI.wd⟩
theorem do18_1 (hq0 : 0 ≤ lo) (hq1 : lo ≤ 1000) (hq2 : 0 ≤ ev) (hq3 : ev ≤ 1000) (t0 : Array Value) (hz : t0.size = 71) (ht0 : t0[0]? = some (.pointer (some ⟨p, 0, none⟩))) (Q : Exit → Act → World → Prop) : RStepX Tryz.prog R_do18 (lay_do18 p B lo ev) t0 (fun x L => X x (L 11)) Q 1 := by
  intro x L o a w ho hL hd hI
  have _ := hq3
  have _ := hq2
  have _ := hq1
  have _ := hq0
  have f0 : a.tmps[0]? = some (.pointer (some ⟨p, 0, none⟩)) := hI.from ht0 rfl
  have h : R_do18[1]? = some R_do18[1] := rfl
  conv at h => rhs; arg 1; whnf
  simp only [wpOp, h]
  rw [if_pos (by rfl)]
  left
  go_simp
  exact ⟨x, hI.put (do18_nodup p B lo ev _) 1 ho hd _ _ _ rfl (.inr (rfl)) (by intro e he; cases he; exact hz ▸ (by decide : (44 : Nat) < 71)) hI.wd⟩
theorem do18_2 (hq0 : 0 ≤ lo) (hq1 : lo ≤ 1000) (hq2 : 0 ≤ ev) (hq3 : ev ≤ 1000) (t0 : Array Value) (hz : t0.size = 71) (Q : Exit → Act → World → Prop) : RStepX Tryz.prog R_do18 (lay_do18 p B lo ev) t0 (fun x L => X x (L 11)) Q 2 := by
  intro x L o a w ho hL hd hI
  have _ := hq3
  have _ := hq2
  have _ := hq1
  have _ := hq0
  have d1 : L 1 = true := dep_spec ho hd (k := 1) (by kernel_rfl)
  have f44 : a.tmps[44]? = some (.pointer (some ⟨p, 0, none⟩)) := hI.at 1 rfl d1
  have h : R_do18[2]? = some R_do18[2] := rfl
  conv at h => rhs; arg 1; whnf
  simp only [wpOp, h]
  rw [if_pos (by rfl)]
  left
  go_simp
  exact ⟨x, hI.put (do18_nodup p B lo ev _) 2 ho hd _ _ _ rfl (.inr (rfl)) (by intro e he; cases he; exact hz ▸ (by decide : (45 : Nat) < 71)) hI.wd⟩
theorem do18_3 (hq0 : 0 ≤ lo) (hq1 : lo ≤ 1000) (hq2 : 0 ≤ ev) (hq3 : ev ≤ 1000) (t0 : Array Value) (hz : t0.size = 71) (Q : Exit → Act → World → Prop) : RStepX Tryz.prog R_do18 (lay_do18 p B lo ev) t0 (fun x L => X x (L 11)) Q 3 := by
  intro x L o a w ho hL hd hI
  have _ := hq3
  have _ := hq2
  have _ := hq1
  have _ := hq0
  have d2 : L 2 = true := dep_spec ho hd (k := 2) (by kernel_rfl)
  have f45 : a.tmps[45]? = some (.pointer (some ⟨p, 0, none⟩)) := hI.at 2 rfl d2
  have h : R_do18[3]? = some R_do18[3] := rfl
  conv at h => rhs; arg 1; whnf
  simp only [wpOp, h]
  rw [if_pos (by rfl)]
  left
  go_simp
  exact ⟨x, hI.put (do18_nodup p B lo ev _) 3 ho hd _ _ _ rfl (.inr (rfl)) (by intro e he; cases he; exact hz ▸ (by decide : (46 : Nat) < 71)) hI.wd⟩
theorem do18_4 (hq0 : 0 ≤ lo) (hq1 : lo ≤ 1000) (hq2 : 0 ≤ ev) (hq3 : ev ≤ 1000) (M4 : ∀ (x : (Unit)) (w : World), X x false w → w.cell? ⟨p, 32, none⟩ = some (.int .i64 lo)) (t0 : Array Value) (hz : t0.size = 71) (Q : Exit → Act → World → Prop) : RStepX Tryz.prog R_do18 (lay_do18 p B lo ev) t0 (fun x L => X x (L 11)) Q 4 := by
  intro x L o a w ho hL hd hI
  have _ := hq3
  have _ := hq2
  have _ := hq1
  have _ := hq0
  have d3 : L 3 = true := dep_spec ho hd (k := 3) (by kernel_rfl)
  have f46 : a.tmps[46]? = some (.pointer (some ⟨p, 32, none⟩)) := hI.at 3 rfl d3
  have z11 : L 11 = false := by
    cases q11 : L 11 with
    | false => rfl
    | true =>
      have q4 : L 4 = true := hI.tr q11 (by kernel_rfl)
      rw [hL] at q4; cases q4
  have hw : X x (L 11) w := hI.wd
  rw [z11] at hw
  have hv := M4 x  w hw
  have h : R_do18[4]? = some R_do18[4] := rfl
  conv at h => rhs; arg 1; whnf
  simp only [wpOp, h]
  rw [if_pos (by rfl)]
  left
  go_simp
  exact ⟨x, hI.put (do18_nodup p B lo ev _) 4 ho hd _ _ _ rfl (.inr (rfl)) (by intro e he; cases he; exact hz ▸ (by decide : (47 : Nat) < 71)) hI.wd⟩
theorem do18_5 (hq0 : 0 ≤ lo) (hq1 : lo ≤ 1000) (hq2 : 0 ≤ ev) (hq3 : ev ≤ 1000) (t0 : Array Value) (hz : t0.size = 71) (ht3 : t0[3]? = some (.pointer (some ⟨B, 0, none⟩))) (Q : Exit → Act → World → Prop) : RStepX Tryz.prog R_do18 (lay_do18 p B lo ev) t0 (fun x L => X x (L 11)) Q 5 := by
  intro x L o a w ho hL hd hI
  have _ := hq3
  have _ := hq2
  have _ := hq1
  have _ := hq0
  have f3 : a.tmps[3]? = some (.pointer (some ⟨B, 0, none⟩)) := hI.from ht3 rfl
  have h : R_do18[5]? = some R_do18[5] := rfl
  conv at h => rhs; arg 1; whnf
  simp only [wpOp, h]
  rw [if_pos (by rfl)]
  left
  go_simp
  exact ⟨x, hI.put (do18_nodup p B lo ev _) 5 ho hd _ _ _ rfl (.inr (rfl)) (by intro e he; cases he; exact hz ▸ (by decide : (48 : Nat) < 71)) hI.wd⟩
theorem do18_6 (hq0 : 0 ≤ lo) (hq1 : lo ≤ 1000) (hq2 : 0 ≤ ev) (hq3 : ev ≤ 1000) (M6 : ∀ (x : (Unit)) (w : World), X x false w → w.cell? ⟨B, 1, none⟩ = some (.int .i64 ev)) (t0 : Array Value) (hz : t0.size = 71) (Q : Exit → Act → World → Prop) : RStepX Tryz.prog R_do18 (lay_do18 p B lo ev) t0 (fun x L => X x (L 11)) Q 6 := by
  intro x L o a w ho hL hd hI
  have _ := hq3
  have _ := hq2
  have _ := hq1
  have _ := hq0
  have d5 : L 5 = true := dep_spec ho hd (k := 5) (by kernel_rfl)
  have f48 : a.tmps[48]? = some (.pointer (some ⟨B, 1, none⟩)) := hI.at 5 rfl d5
  have z11 : L 11 = false := by
    cases q11 : L 11 with
    | false => rfl
    | true =>
      have q6 : L 6 = true := hI.tr q11 (by kernel_rfl)
      rw [hL] at q6; cases q6
  have hw : X x (L 11) w := hI.wd
  rw [z11] at hw
  have hv := M6 x  w hw
  have h : R_do18[6]? = some R_do18[6] := rfl
  conv at h => rhs; arg 1; whnf
  simp only [wpOp, h]
  rw [if_pos (by rfl)]
  left
  go_simp
  exact ⟨x, hI.put (do18_nodup p B lo ev _) 6 ho hd _ _ _ rfl (.inr (rfl)) (by intro e he; cases he; exact hz ▸ (by decide : (49 : Nat) < 71)) hI.wd⟩
theorem do18_7 (hq0 : 0 ≤ lo) (hq1 : lo ≤ 1000) (hq2 : 0 ≤ ev) (hq3 : ev ≤ 1000) (t0 : Array Value) (hz : t0.size = 71) (Q : Exit → Act → World → Prop) : RStepX Tryz.prog R_do18 (lay_do18 p B lo ev) t0 (fun x L => X x (L 11)) Q 7 := by
  intro x L o a w ho hL hd hI
  have _ := hq3
  have _ := hq2
  have _ := hq1
  have _ := hq0
  have d4 : L 4 = true := dep_spec ho hd (k := 4) (by kernel_rfl)
  have f47 : a.tmps[47]? = some (.int .i64 lo) := hI.at 4 rfl d4
  have d6 : L 6 = true := dep_spec ho hd (k := 6) (by kernel_rfl)
  have f49 : a.tmps[49]? = some (.int .i64 ev) := hI.at 6 rfl d6
  have h : R_do18[7]? = some R_do18[7] := rfl
  conv at h => rhs; arg 1; whnf
  simp only [wpOp, h]
  rw [if_pos (by rfl)]
  left
  go_simp
  exact ⟨x, hI.put (do18_nodup p B lo ev _) 7 ho hd _ _ _ rfl (.inr (congrArg (Value.int .i64) (by first | rfl | (rw [IntKind.wrap_i64]; omega)))) (by intro e he; cases he; exact hz ▸ (by decide : (50 : Nat) < 71)) hI.wd⟩
theorem do18_8 (hq0 : 0 ≤ lo) (hq1 : lo ≤ 1000) (hq2 : 0 ≤ ev) (hq3 : ev ≤ 1000) (t0 : Array Value) (hz : t0.size = 71) (Q : Exit → Act → World → Prop) : RStepX Tryz.prog R_do18 (lay_do18 p B lo ev) t0 (fun x L => X x (L 11)) Q 8 := by
  intro x L o a w ho hL hd hI
  have _ := hq3
  have _ := hq2
  have _ := hq1
  have _ := hq0
  have d7 : L 7 = true := dep_spec ho hd (k := 7) (by kernel_rfl)
  have f50 : a.tmps[50]? = some (.int .i64 (lo + ev)) := hI.at 7 rfl d7
  have h : R_do18[8]? = some R_do18[8] := rfl
  conv at h => rhs; arg 1; whnf
  simp only [wpOp, h]
  rw [if_pos (by rfl)]
  left
  go_simp
  exact ⟨x, hI.put (do18_nodup p B lo ev _) 8 ho hd _ _ _ rfl (.inr (congrArg (Value.int .i64) (by first | rfl | omega))) (by intro e he; cases he; exact hz ▸ (by decide : (51 : Nat) < 71)) hI.wd⟩
theorem do18_9 (hq0 : 0 ≤ lo) (hq1 : lo ≤ 1000) (hq2 : 0 ≤ ev) (hq3 : ev ≤ 1000) (t0 : Array Value) (hz : t0.size = 71) (Q : Exit → Act → World → Prop) : RStepX Tryz.prog R_do18 (lay_do18 p B lo ev) t0 (fun x L => X x (L 11)) Q 9 := by
  intro x L o a w ho hL hd hI
  have _ := hq3
  have _ := hq2
  have _ := hq1
  have _ := hq0
  have d0 : L 0 = true := dep_spec ho hd (k := 0) (by kernel_rfl)
  have f43 : a.tmps[43]? = some (.pointer (some ⟨p, 0, none⟩)) := hI.at 0 rfl d0
  have h : R_do18[9]? = some R_do18[9] := rfl
  conv at h => rhs; arg 1; whnf
  simp only [wpOp, h]
  rw [if_pos (by rfl)]
  left
  go_simp
  exact ⟨x, hI.put (do18_nodup p B lo ev _) 9 ho hd _ _ _ rfl (.inr (rfl)) (by intro e he; cases he; exact hz ▸ (by decide : (52 : Nat) < 71)) hI.wd⟩
theorem do18_10 (hq0 : 0 ≤ lo) (hq1 : lo ≤ 1000) (hq2 : 0 ≤ ev) (hq3 : ev ≤ 1000) (t0 : Array Value) (hz : t0.size = 71) (Q : Exit → Act → World → Prop) : RStepX Tryz.prog R_do18 (lay_do18 p B lo ev) t0 (fun x L => X x (L 11)) Q 10 := by
  intro x L o a w ho hL hd hI
  have _ := hq3
  have _ := hq2
  have _ := hq1
  have _ := hq0
  have d9 : L 9 = true := dep_spec ho hd (k := 9) (by kernel_rfl)
  have f52 : a.tmps[52]? = some (.pointer (some ⟨p, 0, none⟩)) := hI.at 9 rfl d9
  have h : R_do18[10]? = some R_do18[10] := rfl
  conv at h => rhs; arg 1; whnf
  simp only [wpOp, h]
  rw [if_pos (by rfl)]
  left
  go_simp
  exact ⟨x, hI.put (do18_nodup p B lo ev _) 10 ho hd _ _ _ rfl (.inr (rfl)) (by intro e he; cases he; exact hz ▸ (by decide : (53 : Nat) < 71)) hI.wd⟩
theorem do18_11 (hq0 : 0 ≤ lo) (hq1 : lo ≤ 1000) (hq2 : 0 ≤ ev) (hq3 : ev ≤ 1000) (S11 : ∀ (x : (Unit)) (w : World), X x false w → ∃ u0, w.cell? ⟨p, 32, none⟩ = some u0 ∧ w.frozen? ⟨p, 32, none⟩ = false ∧ X x true (w.setCell ⟨p, 32, none⟩ (.int .i64 (min (lo + ev) 1000)))) (t0 : Array Value) (hz : t0.size = 71) (Q : Exit → Act → World → Prop) : RStepX Tryz.prog R_do18 (lay_do18 p B lo ev) t0 (fun x L => X x (L 11)) Q 11 := by
  intro x L o a w ho hL hd hI
  have _ := hq3
  have _ := hq2
  have _ := hq1
  have _ := hq0
  have _ := hz
  have d10 : L 10 = true := dep_spec ho hd (k := 10) (by kernel_rfl)
  have f53 : a.tmps[53]? = some (.pointer (some ⟨p, 32, none⟩)) := hI.at 10 rfl d10
  have d8 : L 8 = true := dep_spec ho hd (k := 8) (by kernel_rfl)
  have f51 : a.tmps[51]? = some (.int .i64 (min (lo + ev) 1000)) := hI.at 8 rfl d8
  have z11 : L 11 = false := hL
  have hw : X x (L 11) w := hI.wd
  rw [z11] at hw
  obtain ⟨u0, c0, g0, hx⟩ := S11 x  w hw
  have h : R_do18[11]? = some R_do18[11] := rfl
  conv at h => rhs; arg 1; whnf
  simp only [wpOp, h]
  rw [if_pos (by rfl)]
  left
  go_simp
  have hx2 : X x true (w.setCell ⟨p, 32, none⟩ (.int .i64 (min (lo + ev) 1000))) := by
    exact hx
  exact ⟨x, ((hI.rewd (Wd' := fun _ _ => True) (w' := w) trivial).put (w' := w) (do18_nodup p B lo ev _) 11 ho hd none undef undef rfl (.inl rfl) (by intro e he; cases he) trivial).rewd hx2⟩
theorem do18_step (hq0 : 0 ≤ lo) (hq1 : lo ≤ 1000) (hq2 : 0 ≤ ev) (hq3 : ev ≤ 1000) (M4 : ∀ (x : (Unit)) (w : World), X x false w → w.cell? ⟨p, 32, none⟩ = some (.int .i64 lo)) (M6 : ∀ (x : (Unit)) (w : World), X x false w → w.cell? ⟨B, 1, none⟩ = some (.int .i64 ev)) (S11 : ∀ (x : (Unit)) (w : World), X x false w → ∃ u0, w.cell? ⟨p, 32, none⟩ = some u0 ∧ w.frozen? ⟨p, 32, none⟩ = false ∧ X x true (w.setCell ⟨p, 32, none⟩ (.int .i64 (min (lo + ev) 1000)))) (t0 : Array Value) (hz : t0.size = 71) (ht0 : t0[0]? = some (.pointer (some ⟨p, 0, none⟩))) (ht3 : t0[3]? = some (.pointer (some ⟨B, 0, none⟩))) (Q : Exit → Act → World → Prop) : ∀ i, i < 12 → RStepX Tryz.prog R_do18 (lay_do18 p B lo ev) t0 (fun x L => X x (L 11)) Q i
  | 0, _ => do18_0 p B lo ev X hq0 hq1 hq2 hq3  t0 hz ht0 Q
  | 1, _ => do18_1 p B lo ev X hq0 hq1 hq2 hq3  t0 hz ht0 Q
  | 2, _ => do18_2 p B lo ev X hq0 hq1 hq2 hq3  t0 hz  Q
  | 3, _ => do18_3 p B lo ev X hq0 hq1 hq2 hq3  t0 hz  Q
  | 4, _ => do18_4 p B lo ev X hq0 hq1 hq2 hq3 M4 t0 hz  Q
  | 5, _ => do18_5 p B lo ev X hq0 hq1 hq2 hq3  t0 hz ht3 Q
  | 6, _ => do18_6 p B lo ev X hq0 hq1 hq2 hq3 M6 t0 hz  Q
  | 7, _ => do18_7 p B lo ev X hq0 hq1 hq2 hq3  t0 hz  Q
  | 8, _ => do18_8 p B lo ev X hq0 hq1 hq2 hq3  t0 hz  Q
  | 9, _ => do18_9 p B lo ev X hq0 hq1 hq2 hq3  t0 hz  Q
  | 10, _ => do18_10 p B lo ev X hq0 hq1 hq2 hq3  t0 hz  Q
  | 11, _ => do18_11 p B lo ev X hq0 hq1 hq2 hq3 S11 t0 hz  Q
  | k + 12, h => absurd h (by omega)
end
theorem do18_at {ops : Array Oper} (ho : ops = R_do18) (p : Nat) (B : Nat) (lo : Int) (ev : Int) (X : (Unit) → Bool → World → Prop) (hq0 : 0 ≤ lo) (hq1 : lo ≤ 1000) (hq2 : 0 ≤ ev) (hq3 : ev ≤ 1000) (M4 : ∀ (x : (Unit)) (w : World), X x false w → w.cell? ⟨p, 32, none⟩ = some (.int .i64 lo)) (M6 : ∀ (x : (Unit)) (w : World), X x false w → w.cell? ⟨B, 1, none⟩ = some (.int .i64 ev)) (S11 : ∀ (x : (Unit)) (w : World), X x false w → ∃ u0, w.cell? ⟨p, 32, none⟩ = some u0 ∧ w.frozen? ⟨p, 32, none⟩ = false ∧ X x true (w.setCell ⟨p, 32, none⟩ (.int .i64 (min (lo + ev) 1000)))) (t0 : Array Value) (hz : t0.size = 71) (ht0 : t0[0]? = some (.pointer (some ⟨p, 0, none⟩))) (ht3 : t0[3]? = some (.pointer (some ⟨B, 0, none⟩))) {id : Nat} {Q : Exit → Act → World → Prop} {w : World} (x0 : (Unit)) (start : X x0 false w.drew) (fin : ∀ x w', X x true w' → Q .normal ⟨puts ((lay_do18 p B lo ev) x) t0, []⟩ w') : (Code.region id ops true).wp Tryz.prog Q ⟨t0, []⟩ w := by
  subst ho
  refine wp_regX (Wd := (fun x L => X x (L 11))) 12 rfl do18_acyc do18_size (fun _ => rfl) (do18_nodup p B lo ev) (fun x => by rw [do18_dsts, hz]; rfl) x0 start (fun i hi => do18_step p B lo ev X hq0 hq1 hq2 hq3 M4 M6 S11 t0 hz ht0 ht3 Q i hi) fun x L w' hl hw => fin x w' ?_
  have hw : X x (L 11) w' := hw
  rw [hl 11 (by omega)] at hw
  exact hw
end Go.Proofs.YtdgphoemjeakaaaGreatDoor.Y

/-! Package event: of, May. -/
namespace Go.Proofs.YtdgphoemjeakaaaGreatDoor.E
open Go.RowKit Go.Proofs.YtdgphoemjeakaaaGreatDoor Go.Proofs.YtdgphoemjeakaaaGreatDoor.K
set_option maxRecDepth 100000

set_option maxHeartbeats 1000000 in
theorem of_any (k n : Int) (t : ByteArray) (w : World) : Calls Tryz.prog 49 #[.iface 32 (.agg #[.int .i64 k, .int .i64 n, .string t])] w fun e w' => e = .returned (.agg #[.int .i64 k, .int .i64 n, .string t]) ∧ Chg No w w' := by
  go_enter Tryz.func49, Tryz.ntmps49
  go_wp2
  go_returns
  exact ⟨rfl, ((Chg.refl No w).alloc _).alloc _⟩
/-- May this event be? -/
def may (k n : Int) (full : Bool) : Bool :=
  if k != 5 && full then false else if k == 1 then decide (1 ≤ n) && decide (n ≤ 200) else if k == 2 then decide (1 ≤ n) && decide (n ≤ 100) else if k == 3 || k == 4 then decide (0 ≤ n) && decide (n ≤ 999) else if k == 6 then decide (1 ≤ n) && decide (n ≤ 50) else false
set_option maxHeartbeats 2000000 in
theorem may_full (k n : Int) (t : ByteArray) (w : World) (h5 : k ≠ 5) (ht : (!t.toList.isEmpty) = true) : Calls Tryz.prog 26 #[.agg #[.int .i64 k, .int .i64 n, .string t]] w fun e w' => e = .returned (.bool false) ∧ Chg No w w' := by
  have k5 : (k != 5) = true := bne_iff_ne.2 h5
  go_enter Tryz.func26, Tryz.ntmps26
  go_wp2_with fail
  refine (of_any _ _ _ _).mono ?_
  rintro e w1 ⟨rfl, hc⟩
  have hB := (Blk.new w #[.int .i64 k, .int .i64 n, .string t] 32).kept hc
  have HC := Lib.hid (((Chg.refl No w).alloc (.cells #[.int .i64 k, .int .i64 n, .string t] 32)).trans hc)
  have c0 : w1.cell? ⟨w.heap.size, 0, none⟩ = some (.int .i64 k) := hB.cell 0
  have c1 : w1.cell? ⟨w.heap.size, 1, none⟩ = some (.int .i64 n) := hB.cell 1
  have c2 : w1.cell? ⟨w.heap.size, 2, none⟩ = some (.string t) := hB.cell 2
  clear hc hB
  go_wp2
  go_ret
  exact ⟨rfl, HC.out⟩
set_option maxHeartbeats 8000000 in
theorem may_empty (k n : Int) (t : ByteArray) (w : World) (h5 : k ≠ 5) (ht : (!t.toList.isEmpty) = false) : Calls Tryz.prog 26 #[.agg #[.int .i64 k, .int .i64 n, .string t]] w fun e w' => e = .returned (.bool (may k n false)) ∧ Chg No w w' := by
  have k5 : (k != 5) = true := bne_iff_ne.2 h5
  have k55 : (k == 5) = false := beq_eq_false_iff_ne.2 h5
  go_enter Tryz.func26, Tryz.ntmps26
  go_wp2_with fail
  refine (of_any _ _ _ _).mono ?_
  rintro e w1 ⟨rfl, hc⟩
  have hB := (Blk.new w #[.int .i64 k, .int .i64 n, .string t] 32).kept hc
  have HC := Lib.hid (((Chg.refl No w).alloc (.cells #[.int .i64 k, .int .i64 n, .string t] 32)).trans hc)
  have c0 : w1.cell? ⟨w.heap.size, 0, none⟩ = some (.int .i64 k) := hB.cell 0
  have c1 : w1.cell? ⟨w.heap.size, 1, none⟩ = some (.int .i64 n) := hB.cell 1
  have c2 : w1.cell? ⟨w.heap.size, 2, none⟩ = some (.string t) := hB.cell 2
  clear hc hB
  cases e1 : k == 1
  · cases e2 : k == 2
    · cases e3 : k == 3
      · cases e4 : k == 4
        · cases e6 : k == 6
          · go_wp2
            go_ret
            exact ⟨by simp [may, k5, e1, e2, e3, e4, e6], HC.out⟩
          · clear e1 e2 e3 e4
            obtain rfl : k = 6 := by simpa using e6
            by_cases hlo : 1 ≤ n
            · by_cases hhi : n ≤ 50
              · have q1 : decide (1 ≤ n) = true := decide_eq_true hlo
                have q2 : decide (n ≤ 50) = true := decide_eq_true hhi
                go_wp2
                go_ret
                exact ⟨by simp [may, k5, q1, q2], HC.out⟩
              · have q1 : decide (1 ≤ n) = true := decide_eq_true hlo
                have q2 : decide (n ≤ 50) = false := decide_eq_false hhi
                go_wp2
                go_ret
                exact ⟨by simp [may, k5, q1, q2], HC.out⟩
            · have q1 : decide (1 ≤ n) = false := decide_eq_false hlo
              go_wp2
              go_ret
              exact ⟨by simp [may, k5, q1], HC.out⟩
        · obtain rfl : k = 4 := by simpa using e4
          by_cases hlo : 0 ≤ n
          · by_cases hhi : n ≤ 999
            · have q1 : decide (0 ≤ n) = true := decide_eq_true hlo
              have q2 : decide (n ≤ 999) = true := decide_eq_true hhi
              go_wp2
              go_ret
              exact ⟨by simp [may, k5, q1, q2], HC.out⟩
            · have q1 : decide (0 ≤ n) = true := decide_eq_true hlo
              have q2 : decide (n ≤ 999) = false := decide_eq_false hhi
              go_wp2
              go_ret
              exact ⟨by simp [may, k5, q1, q2], HC.out⟩
          · have q1 : decide (0 ≤ n) = false := decide_eq_false hlo
            go_wp2
            go_ret
            exact ⟨by simp [may, k5, q1], HC.out⟩
      · obtain rfl : k = 3 := by simpa using e3
        by_cases hlo : 0 ≤ n
        · by_cases hhi : n ≤ 999
          · have q1 : decide (0 ≤ n) = true := decide_eq_true hlo
            have q2 : decide (n ≤ 999) = true := decide_eq_true hhi
            go_wp2
            go_ret
            exact ⟨by simp [may, k5, q1, q2], HC.out⟩
          · have q1 : decide (0 ≤ n) = true := decide_eq_true hlo
            have q2 : decide (n ≤ 999) = false := decide_eq_false hhi
            go_wp2
            go_ret
            exact ⟨by simp [may, k5, q1, q2], HC.out⟩
        · have q1 : decide (0 ≤ n) = false := decide_eq_false hlo
          go_wp2
          go_ret
          exact ⟨by simp [may, k5, q1], HC.out⟩
    · obtain rfl : k = 2 := by simpa using e2
      by_cases hlo : 1 ≤ n
      · by_cases hhi : n ≤ 100
        · have q1 : decide (1 ≤ n) = true := decide_eq_true hlo
          have q2 : decide (n ≤ 100) = true := decide_eq_true hhi
          go_wp2
          go_ret
          exact ⟨by simp [may, k5, q1, q2], HC.out⟩
        · have q1 : decide (1 ≤ n) = true := decide_eq_true hlo
          have q2 : decide (n ≤ 100) = false := decide_eq_false hhi
          go_wp2
          go_ret
          exact ⟨by simp [may, k5, q1, q2], HC.out⟩
      · have q1 : decide (1 ≤ n) = false := decide_eq_false hlo
        go_wp2
        go_ret
        exact ⟨by simp [may, k5, q1], HC.out⟩
  · obtain rfl : k = 1 := by simpa using e1
    by_cases hlo : 1 ≤ n
    · by_cases hhi : n ≤ 200
      · have q1 : decide (1 ≤ n) = true := decide_eq_true hlo
        have q2 : decide (n ≤ 200) = true := decide_eq_true hhi
        go_wp2
        go_ret
        exact ⟨by simp [may, k5, q1, q2], HC.out⟩
      · have q1 : decide (1 ≤ n) = true := decide_eq_true hlo
        have q2 : decide (n ≤ 200) = false := decide_eq_false hhi
        go_wp2
        go_ret
        exact ⟨by simp [may, k5, q1, q2], HC.out⟩
    · have q1 : decide (1 ≤ n) = false := decide_eq_false hlo
      go_wp2
      go_ret
      exact ⟨by simp [may, k5, q1], HC.out⟩

theorem may_any (k n : Int) (t : ByteArray) (w : World) (h5 : k ≠ 5) : Calls Tryz.prog 26 #[.agg #[.int .i64 k, .int .i64 n, .string t]] w fun e w' => e = .returned (.bool (may k n (!t.toList.isEmpty))) ∧ Chg No w w' := by
  cases ht : !t.toList.isEmpty
  · exact may_empty k n t w h5 ht
  · have e : may k n true = false := by
      have k5 : (k != 5) = true := bne_iff_ne.2 h5
      simp [may, k5]
    rw [e]
    exact may_full k n t w h5 ht
end Go.Proofs.YtdgphoemjeakaaaGreatDoor.E

/-! The whole service: Do. -/
namespace Go.Proofs.YtdgphoemjeakaaaGreatDoor.Y
open Go.Proofs.YtdgphoemjeakaaaGreatDoor.Rg
open Go.Proofs.YtdgphoemjeakaaaGreatDoor.Me
open Go.RowKit Go.Proofs.YtdgphoemjeakaaaGreatDoor Go.Proofs.YtdgphoemjeakaaaGreatDoor.K Go.Proofs.YtdgphoemjeakaaaGreatDoor.P Go.Proofs.YtdgphoemjeakaaaGreatDoor.U Go.Proofs.YtdgphoemjeakaaaGreatDoor.R
set_option maxRecDepth 100000

theorem arrives_succ (li : Int) : ∀ (n : Nat) (s : V.Sys), V.arrives li (n + 1) s = V.arrive li (V.arrives li n s)
  | 0, _ => rfl
  | n + 1, s => by
    show V.arrives li (n + 1) (V.arrive li s) = _
    rw [arrives_succ li n]
    rfl
theorem ticks_succ (bu li rd : Int) : ∀ (n : Nat) (s : V.Sys), V.ticks bu li rd (n + 1) s = V.tick bu li rd (V.ticks bu li rd n s)
  | 0, _ => rfl
  | n + 1, s => by
    show V.ticks bu li rd (n + 1) (V.tick bu li rd s) = _
    rw [ticks_succ bu li rd n]
    rfl
theorem sent_now (li : Int) (s : V.Sys) : (V.sent li s).now = s.now := rfl
theorem arrive_now (li : Int) (s : V.Sys) : (V.arrive li s).now = s.now := by
  show (V.come s).now = _
  exact come_now s
theorem arrives_now (li : Int) : ∀ (n : Nat) (s : V.Sys), (V.arrives li n s).now = s.now
  | 0, _ => rfl
  | n + 1, s => by rw [V.arrives, arrives_now li n, arrive_now]

/-- An event as it is handed over. -/
def evt (k n : Int) (t : ByteArray) : Value := .agg #[.int .i64 k, .int .i64 n, .string t]
/-- The service behind a call. -/
def Aft (a : At) (SS : Nat → Prop) (w0 : World) (s : V.Sys) (w : World) : Prop := ∃ rv tv tn, tn ≤ 1000 ∧ ∃ tx, St a SS w0 (sca a rv tv s) rv tv tn tx s w

section
variable {a : At} {SS : Nat → Prop} {w0 w w' : World} {s : V.Sys}
theorem Aft.no (h : Aft a SS w0 s w) (c : Chg No w w') : Aft a SS w0 s w' := by
  obtain ⟨rv, tv, tn, h1, tx, h2⟩ := h
  exact ⟨rv, tv, tn, h1, tx, h2.no c⟩
end

set_option maxHeartbeats 8000000 in
theorem do_bad {a : At} {SS : Nat → Prop} {w0 w : World} {s : V.Sys} (h : Aft a SS w0 s w) (k n : Int) (t : ByteArray) (h5 : k ≠ 5) (hm : E.may k n (!t.toList.isEmpty) = false) :
    Calls Tryz.prog 12 #[.pointer (some ⟨a.p, 0, none⟩), evt k n t] w fun e w' => e = .returned (.int .i64 1) ∧ Aft a SS w0 s w' := by
  have H := Lib.hid h
  clear h
  unfold evt
  go_enter Tryz.func12, Tryz.ntmps12
  go_wp2_with fail
  refine (E.may_any k n t _ h5).mono ?_
  rintro e w1 ⟨rfl, hc⟩
  have H1 := Lib.hid (H.out.no (((Chg.refl No w).alloc _).trans hc))
  rw [hm]
  clear hc H
  go_wp2
  go_ret
  exact ⟨rfl, H1.out⟩

set_option maxHeartbeats 8000000 in
theorem do_arrive {a : At} {SS : Nat → Prop} {w0 w : World} {s : V.Sys} (h : Aft a SS w0 s w) (inv : V.Inv a.li s) (n : Nat) (t : ByteArray) (hn : 1 ≤ n ∧ n ≤ 100) (ht : (!t.toList.isEmpty) = false) (n1 : s.now ≤ 1000000) (hr : s.rs.length + 100 ≤ 1000000) (l0 : 0 ≤ a.li) (l1 : a.li ≤ 1000) :
    Calls Tryz.prog 12 #[.pointer (some ⟨a.p, 0, none⟩), evt 2 n t] w fun e w' => e = .returned (.int .i64 0) ∧ Aft a SS w0 (V.arrives a.li n s) w' := by
  have hm : E.may 2 n (!t.toList.isEmpty) = true := by
    rw [ht]
    have q1 : decide (1 ≤ (n : Int)) = true := decide_eq_true (by omega)
    have q2 : decide ((n : Int) ≤ 100) = true := decide_eq_true (by omega)
    simp [E.may, q1, q2]
  have H := Lib.hid h
  have HI := Lib.hid inv
  clear h inv
  unfold evt
  go_enter Tryz.func12, Tryz.ntmps12
  go_wp2_with fail
  refine (E.may_any 2 n t _ (by decide)).mono ?_
  rintro e w1 ⟨rfl, hc⟩
  have hB := (Blk.new w #[.int .i64 2, .int .i64 n, .string t] 32).kept hc
  have c0 : w1.cell? ⟨w.heap.size, 0, none⟩ = some (.int .i64 2) := hB.cell 0
  have c1 : w1.cell? ⟨w.heap.size, 1, none⟩ = some (.int .i64 n) := hB.cell 1
  have H1 := Lib.hid (H.out.no (((Chg.refl No w).alloc (.cells #[.int .i64 2, .int .i64 n, .string t] 32)).trans hc))
  rw [hm]
  clear hc H hB
  go_wp2_with fail
  go_loopw [18] (fun i wr => ∃ j : Nat, j ≤ n ∧ i = .int .i64 j ∧ Hid (Aft a SS w0 (V.arrives a.li j s) wr)) (fun i _ => n - (intOf i).toNat)
  case atStart => exact ⟨0, Nat.zero_le _, rfl, H1.out⟩
  case round =>
    obtain ⟨j, hj, rfl, HR⟩ := hrel
    by_cases hlt : j < n
    · obtain ⟨rv, tv, tn, htn, tx, hs⟩ := HR.out
      have HS := Lib.hid hs
      have HJ := Lib.hid (HI.out.arrives (li := a.li) j)
      have hjn := arrives_now a.li j s
      have hjl := V.arrives_len a.li j s
      have HSU := Lib.hid (arrives_succ a.li j s)
      clear hs HR
      go_wp2_with fail
      refine (arrive_any HS.out HJ.out (by omega) (by omega) l0 l1).mono ?_
      rintro e w2 ⟨rfl, rv', h2⟩
      have H2 := Lib.hid h2
      clear h2
      go_wp2_with fail
      go_roundw
      case rel =>
        refine ⟨j + 1, by omega, by go_num, rv', tv, tn, htn, tx, ?_⟩
        rw [HSU.out]
        exact H2.out
      case measure => simp [intOf]; omega
    · obtain rfl : j = n := by omega
      go_wp2
      go_ret
      exact ⟨rfl, HR.out⟩

set_option maxHeartbeats 8000000 in
theorem do_finish {a : At} {SS : Nat → Prop} {w0 w : World} {s : V.Sys} (h : Aft a SS w0 s w) (inv : V.Inv a.li s) (n : Nat) (t : ByteArray) (hn : n ≤ 999) (ht : (!t.toList.isEmpty) = false) (n1 : s.now ≤ 1000000) (hr : s.rs.length ≤ 1000000) (l0 : 0 ≤ a.li) (l1 : a.li ≤ 1000) :
    Calls Tryz.prog 12 #[.pointer (some ⟨a.p, 0, none⟩), evt 3 n t] w fun e w' => e = .returned (.int .i64 (V.finish a.li n s).1) ∧ Aft a SS w0 (V.finish a.li n s).2 w' := by
  have hm : E.may 3 n (!t.toList.isEmpty) = true := by
    rw [ht]
    have q2 : decide ((n : Int) ≤ 999) = true := decide_eq_true (by omega)
    simp [E.may, q2]
  have H := Lib.hid h
  have HI := Lib.hid inv
  clear h inv
  unfold evt
  go_enter Tryz.func12, Tryz.ntmps12
  go_wp2_with fail
  refine (E.may_any 3 n t _ (by decide)).mono ?_
  rintro e w1 ⟨rfl, hc⟩
  have hB := (Blk.new w #[.int .i64 3, .int .i64 n, .string t] 32).kept hc
  have c0 : w1.cell? ⟨w.heap.size, 0, none⟩ = some (.int .i64 3) := hB.cell 0
  have c1 : w1.cell? ⟨w.heap.size, 1, none⟩ = some (.int .i64 n) := hB.cell 1
  obtain ⟨rv, tv, tn, htn, tx, hs⟩ := H.out.no (((Chg.refl No w).alloc (.cells #[.int .i64 3, .int .i64 n, .string t] 32)).trans hc)
  have HS := Lib.hid hs
  rw [hm]
  clear hc H hB hs
  go_wp2_with fail
  refine (finish_any HS.out HI.out n1 hr l0 l1 n).mono ?_
  rintro e w2 ⟨rfl, h2⟩
  have H2 := Lib.hid h2
  clear h2
  go_wp2
  go_ret
  exact ⟨rfl, rv, tv, tn, htn, tx, H2.out⟩

/-- Scrapes are lost. -/
def lose (n : Int) (s : V.Sys) : V.Sys := { s with lost := min (s.lost + n) 1000 }
set_option maxHeartbeats 8000000 in
theorem do_lose {a : At} {SS : Nat → Prop} {w0 w : World} {s : V.Sys} (h : Aft a SS w0 s w) (inv : V.Inv a.li s) (n : Int) (t : ByteArray) (hn : 1 ≤ n ∧ n ≤ 50) (ht : (!t.toList.isEmpty) = false) :
    Calls Tryz.prog 12 #[.pointer (some ⟨a.p, 0, none⟩), evt 6 n t] w fun e w' => e = .returned (.int .i64 0) ∧ Aft a SS w0 (lose n s) w' := by
  have hm : E.may 6 n (!t.toList.isEmpty) = true := by
    rw [ht]
    have q1 : decide (1 ≤ n) = true := decide_eq_true (by omega)
    have q2 : decide (n ≤ 50) = true := decide_eq_true (by omega)
    simp [E.may, q1, q2]
  have hlo := inv.lost
  have H := Lib.hid h
  clear h inv
  unfold evt
  go_enter Tryz.func12, Tryz.ntmps12
  go_wp2_with fail
  refine (E.may_any 6 n t _ (by decide)).mono ?_
  rintro e w1 ⟨rfl, hc⟩
  have hB := (Blk.new w #[.int .i64 6, .int .i64 n, .string t] 32).kept hc
  have c0 : w1.cell? ⟨w.heap.size, 0, none⟩ = some (.int .i64 6) := hB.cell 0
  obtain ⟨rv, tv, tn, htn, tx, hs⟩ := H.out.no (((Chg.refl No w).alloc (.cells #[.int .i64 6, .int .i64 n, .string t] 32)).trans hc)
  have HS := Lib.hid hs
  have HB := Lib.hid hB
  rw [hm]
  clear hc H hB hs
  go_wp2_with fail
  refine do18_at (by kernel_rfl) a.p w.heap.size s.lost n (fun _ b w' => cond b (Aft a SS w0 (lose n s) w') (St a SS w0 (sca a rv tv s) rv tv tn tx s w' ∧ Chg No w1 w')) hlo.1 hlo.2 (by omega) (by omega) (fun _ _ y => by rw [y.1.blk.cell, sc32]) (fun _ _ y => by rw [(HB.out.kept y.2).cell]; rfl) (fun _ w' y => ?_) _ rfl rfl rfl () ⟨HS.out.no (Chg.refl No _).drew, (Chg.refl No _).drew⟩ fun _ w2 h2 => ?_
  · have y1 : St a SS w0 (sca a rv tv s) rv tv tn tx s w' := y.1
    refine ⟨_, by rw [y1.blk.cell]; exact sc32 _ _ _ _, y1.blk.free 32, rv, tv, tn, htn, tx, ?_⟩
    have h3 := y1.cell 32 (.int .i64 (min (s.lost + n) 1000))
    rw [sc_set32] at h3
    exact h3
  · have H2 : Hid (Aft a SS w0 (lose n s) w2) := h2
    clear h2
    simp only [lay_do18, puts, List.setIfInBounds_toArray, List.set_cons_succ, List.set_cons_zero]
    go_wp2
    go_ret
    exact ⟨rfl, H2.out⟩

set_option maxHeartbeats 8000000 in
theorem do_tick (hmm : Said.may) {a : At} (ok : P.Ok a.bu a.ini a.li a.rd) {SS : Nat → Prop} {w0 w : World} {s : V.Sys} (h : Aft a SS w0 s w) (inv : V.Inv a.li s) (n : Nat) (t : ByteArray) (hn : 1 ≤ n ∧ n ≤ 200) (ht : (!t.toList.isEmpty) = false) (n1 : s.now + 200 ≤ 1000000) (hr : s.rs.length ≤ 1000000) :
    Calls Tryz.prog 12 #[.pointer (some ⟨a.p, 0, none⟩), evt 1 n t] w fun e w' => e = .returned (.int .i64 0) ∧ Aft a SS w0 (V.ticks a.bu a.li a.rd n s) w' := by
  have hm : E.may 1 n (!t.toList.isEmpty) = true := by
    rw [ht]
    have q1 : decide (1 ≤ (n : Int)) = true := decide_eq_true (by omega)
    have q2 : decide ((n : Int) ≤ 200) = true := decide_eq_true (by omega)
    simp [E.may, q1, q2]
  have hz := inv.now0
  have H := Lib.hid h
  have HI := Lib.hid inv
  have HM := Lib.hid hmm
  have HK := Lib.hid ok
  have hli := ok.li
  clear h inv hmm ok
  unfold evt
  go_enter Tryz.func12, Tryz.ntmps12
  go_wp2_with fail
  refine (E.may_any 1 n t _ (by decide)).mono ?_
  rintro e w1 ⟨rfl, hc⟩
  have hB := (Blk.new w #[.int .i64 1, .int .i64 n, .string t] 32).kept hc
  have c0 : w1.cell? ⟨w.heap.size, 0, none⟩ = some (.int .i64 1) := hB.cell 0
  have c1 : w1.cell? ⟨w.heap.size, 1, none⟩ = some (.int .i64 n) := hB.cell 1
  have H1 := Lib.hid (H.out.no (((Chg.refl No w).alloc (.cells #[.int .i64 1, .int .i64 n, .string t] 32)).trans hc))
  obtain ⟨rv, tv, tn, htn, tx, hs⟩ := H1.out
  have c20 : w1.cell? ⟨a.p, 20, none⟩ = some (.int .i64 s.now) := by rw [hs.blk.cell, sc20]
  rw [hm]
  clear hc H hB hs
  have k20 : decide (1099511627776 < s.now + (n : Int)) = false := decide_eq_false (by omega)
  go_wp2_with fail
  go_quiet (fail)
  go_wp2_with fail
  go_loopw [66] (fun i wr => ∃ j : Nat, j ≤ n ∧ i = .int .i64 j ∧ Hid (Aft a SS w0 (V.ticks a.bu a.li a.rd j s) wr)) (fun i _ => n - (intOf i).toNat)
  case atStart => exact ⟨0, Nat.zero_le _, rfl, H1.out.no ((Chg.refl No w1).drewN _)⟩
  case round =>
    obtain ⟨j, hj, rfl, HR⟩ := hrel
    by_cases hlt : j < n
    · obtain ⟨rv, tv, tn, htn, tx, hs⟩ := HR.out
      have HS := Lib.hid hs
      have HJ := Lib.hid (HI.out.ticks (bu := a.bu) (rd := a.rd) (by omega) hli.2 j)
      have hjn := V.ticks_now a.bu a.li a.rd j s
      have hjl := V.ticks_len a.bu a.li a.rd j s
      have HSU := Lib.hid (ticks_succ a.bu a.li a.rd j s)
      clear hs HR
      go_wp2_with fail
      refine (tick_any HM.out HK.out HS.out htn HJ.out (by omega) (by omega)).mono ?_
      rintro e w2 ⟨rfl, tv', tn', htn', tx', h2⟩
      have H2 := Lib.hid h2
      clear h2
      go_wp2_with fail
      go_roundw
      case rel =>
        refine ⟨j + 1, by omega, by go_num, rv, tv', tn', htn', tx', ?_⟩
        rw [HSU.out]
        exact H2.out
      case measure => simp [intOf]; omega
    · obtain rfl : j = n := by omega
      go_wp2
      go_ret
      exact ⟨rfl, HR.out⟩
end Go.Proofs.YtdgphoemjeakaaaGreatDoor.Y

/-! The whole service: regions that draw their order. -/
namespace Go.Proofs.YtdgphoemjeakaaaGreatDoor.Y
open Go.RowKit Go.Proofs.YtdgphoemjeakaaaGreatDoor.K Go.Proofs.YtdgphoemjeakaaaGreatDoor.P Go.Proofs.YtdgphoemjeakaaaGreatDoor.W Go.Proofs.YtdgphoemjeakaaaGreatDoor.Rg
set_option maxRecDepth 100000

noncomputable def R_new4 : Array Oper := reg Tryz.f8 4
theorem new4_size : R_new4.size = 5 := by kernel_rfl
theorem new4_acyc : acycB R_new4 = true := by kernel_rfl
/-- What the operations lay. -/
noncomputable def lay_new4 (B : Nat) (p : Nat) (l : Nat) (ini : Int) (_ : Unit) : Lay := [(some 24, .pointer (some ⟨p, 0, none⟩)),
  (some 25, .pointer (some ⟨l, 0, none⟩)),
  (some 26, .pointer (some ⟨B, 10, none⟩)),
  (some 27, .int .i64 ini),
  (some 28, .int .i64 0)]
theorem new4_dsts (B : Nat) (p : Nat) (l : Nat) (ini : Int) (x : Unit) : dsts (lay_new4 B p l ini x) = [24, 25, 26, 27, 28] := rfl
theorem new4_nodup (B : Nat) (p : Nat) (l : Nat) (ini : Int) (x : Unit) : (dsts (lay_new4 B p l ini x)).Nodup := by rw [new4_dsts]; decide
section
variable (B : Nat) (p : Nat) (l : Nat) (ini : Int) (X : (Unit) → Bool → World → Prop)
theorem new4_0 (t0 : Array Value) (hz : t0.size = 44) (ht4 : t0[4]? = some (.pointer (some ⟨p, 0, none⟩))) (Q : Exit → Act → World → Prop) : RStepX Tryz.prog R_new4 (lay_new4 B p l ini) t0 (fun x L => X x (L 4)) Q 0 := by
  intro x L o a w ho hL hd hI
  have f4 : a.tmps[4]? = some (.pointer (some ⟨p, 0, none⟩)) := hI.from ht4 rfl
  have h : R_new4[0]? = some R_new4[0] := rfl
  conv at h => rhs; arg 1; whnf
  simp only [wpOp, h]
  rw [if_pos (by rfl)]
  left
  go_simp
  exact ⟨x, hI.put (new4_nodup B p l ini _) 0 ho hd _ _ _ rfl (.inr (rfl)) (by intro e he; cases he; exact hz ▸ (by decide : (24 : Nat) < 44)) hI.wd⟩
theorem new4_1 (C1 : ∀ (x : (Unit)) (w : World), X x false w → Calls Tryz.prog 21 #[.pointer (some ⟨p, 0, none⟩)] w fun e w' => e = .returned (.pointer (some ⟨l, 0, none⟩)) ∧ X x false w') (t0 : Array Value) (hz : t0.size = 44) (Q : Exit → Act → World → Prop) : RStepX Tryz.prog R_new4 (lay_new4 B p l ini) t0 (fun x L => X x (L 4)) Q 1 := by
  intro x L o a w ho hL hd hI
  have d0 : L 0 = true := dep_spec ho hd (k := 0) (by kernel_rfl)
  have f24 : a.tmps[24]? = some (.pointer (some ⟨p, 0, none⟩)) := hI.at 0 rfl d0
  have z4 : L 4 = false := by
    cases q4 : L 4 with
    | false => rfl
    | true =>
      have q1 : L 1 = true := hI.tr q4 (by kernel_rfl)
      rw [hL] at q1; cases q1
  have hw : X x (L 4) w := hI.wd
  rw [z4] at hw
  have h : R_new4[1]? = some R_new4[1] := rfl
  conv at h => rhs; arg 1; whnf
  simp only [wpOp, h]
  rw [if_pos (by rfl)]
  left
  go_simp
  refine (C1 x  w hw).mono ?_
  rintro e w' ⟨rfl, hx⟩
  have hx2 : X x (L 4) w' := by
    rw [z4]
    exact hx
  exact ⟨x, ((hI.rewd (Wd' := fun _ _ => True) (w' := w) trivial).put (w' := w) (new4_nodup B p l ini _) 1 ho hd _ _ _ rfl (.inr (rfl)) (by intro e he; cases he; exact hz ▸ (by decide : (25 : Nat) < 44)) trivial).rewd hx2⟩
theorem new4_2 (t0 : Array Value) (hz : t0.size = 44) (ht1 : t0[1]? = some (.pointer (some ⟨B, 0, none⟩))) (Q : Exit → Act → World → Prop) : RStepX Tryz.prog R_new4 (lay_new4 B p l ini) t0 (fun x L => X x (L 4)) Q 2 := by
  intro x L o a w ho hL hd hI
  have f1 : a.tmps[1]? = some (.pointer (some ⟨B, 0, none⟩)) := hI.from ht1 rfl
  have h : R_new4[2]? = some R_new4[2] := rfl
  conv at h => rhs; arg 1; whnf
  simp only [wpOp, h]
  rw [if_pos (by rfl)]
  left
  go_simp
  exact ⟨x, hI.put (new4_nodup B p l ini _) 2 ho hd _ _ _ rfl (.inr (rfl)) (by intro e he; cases he; exact hz ▸ (by decide : (26 : Nat) < 44)) hI.wd⟩
theorem new4_3 (M3 : ∀ (x : (Unit)) (w : World), X x false w → w.cell? ⟨B, 10, none⟩ = some (.int .i64 ini)) (t0 : Array Value) (hz : t0.size = 44) (Q : Exit → Act → World → Prop) : RStepX Tryz.prog R_new4 (lay_new4 B p l ini) t0 (fun x L => X x (L 4)) Q 3 := by
  intro x L o a w ho hL hd hI
  have d2 : L 2 = true := dep_spec ho hd (k := 2) (by kernel_rfl)
  have f26 : a.tmps[26]? = some (.pointer (some ⟨B, 10, none⟩)) := hI.at 2 rfl d2
  have z4 : L 4 = false := by
    cases q4 : L 4 with
    | false => rfl
    | true =>
      have q3 : L 3 = true := hI.tr q4 (by kernel_rfl)
      rw [hL] at q3; cases q3
  have hw : X x (L 4) w := hI.wd
  rw [z4] at hw
  have hv := M3 x  w hw
  have h : R_new4[3]? = some R_new4[3] := rfl
  conv at h => rhs; arg 1; whnf
  simp only [wpOp, h]
  rw [if_pos (by rfl)]
  left
  go_simp
  exact ⟨x, hI.put (new4_nodup B p l ini _) 3 ho hd _ _ _ rfl (.inr (rfl)) (by intro e he; cases he; exact hz ▸ (by decide : (27 : Nat) < 44)) hI.wd⟩
theorem new4_4 (C4 : ∀ (x : (Unit)) (w : World), X x false w → Calls Tryz.prog 22 #[.pointer (some ⟨l, 0, none⟩), .int .i64 ini, .int .i64 0] w fun e w' => e = .returned (.int .i64 0) ∧ X x true w') (t0 : Array Value) (hz : t0.size = 44) (Q : Exit → Act → World → Prop) : RStepX Tryz.prog R_new4 (lay_new4 B p l ini) t0 (fun x L => X x (L 4)) Q 4 := by
  intro x L o a w ho hL hd hI
  have d1 : L 1 = true := dep_spec ho hd (k := 1) (by kernel_rfl)
  have f25 : a.tmps[25]? = some (.pointer (some ⟨l, 0, none⟩)) := hI.at 1 rfl d1
  have d3 : L 3 = true := dep_spec ho hd (k := 3) (by kernel_rfl)
  have f27 : a.tmps[27]? = some (.int .i64 ini) := hI.at 3 rfl d3
  have z4 : L 4 = false := hL
  have hw : X x (L 4) w := hI.wd
  rw [z4] at hw
  have h : R_new4[4]? = some R_new4[4] := rfl
  conv at h => rhs; arg 1; whnf
  simp only [wpOp, h]
  rw [if_pos (by rfl)]
  left
  go_simp
  refine (C4 x  w hw).mono ?_
  rintro e w' ⟨rfl, hx⟩
  have hx2 : X x true w' := by
    exact hx
  exact ⟨x, ((hI.rewd (Wd' := fun _ _ => True) (w' := w) trivial).put (w' := w) (new4_nodup B p l ini _) 4 ho hd _ _ _ rfl (.inr (rfl)) (by intro e he; cases he; exact hz ▸ (by decide : (28 : Nat) < 44)) trivial).rewd hx2⟩
theorem new4_step (M3 : ∀ (x : (Unit)) (w : World), X x false w → w.cell? ⟨B, 10, none⟩ = some (.int .i64 ini)) (C1 : ∀ (x : (Unit)) (w : World), X x false w → Calls Tryz.prog 21 #[.pointer (some ⟨p, 0, none⟩)] w fun e w' => e = .returned (.pointer (some ⟨l, 0, none⟩)) ∧ X x false w') (C4 : ∀ (x : (Unit)) (w : World), X x false w → Calls Tryz.prog 22 #[.pointer (some ⟨l, 0, none⟩), .int .i64 ini, .int .i64 0] w fun e w' => e = .returned (.int .i64 0) ∧ X x true w') (t0 : Array Value) (hz : t0.size = 44) (ht1 : t0[1]? = some (.pointer (some ⟨B, 0, none⟩))) (ht4 : t0[4]? = some (.pointer (some ⟨p, 0, none⟩))) (Q : Exit → Act → World → Prop) : ∀ i, i < 5 → RStepX Tryz.prog R_new4 (lay_new4 B p l ini) t0 (fun x L => X x (L 4)) Q i
  | 0, _ => new4_0 B p l ini X   t0 hz ht4 Q
  | 1, _ => new4_1 B p l ini X  C1 t0 hz  Q
  | 2, _ => new4_2 B p l ini X   t0 hz ht1 Q
  | 3, _ => new4_3 B p l ini X  M3 t0 hz  Q
  | 4, _ => new4_4 B p l ini X  C4 t0 hz  Q
  | k + 5, h => absurd h (by omega)
end
theorem new4_at {ops : Array Oper} (ho : ops = R_new4) (B : Nat) (p : Nat) (l : Nat) (ini : Int) (X : (Unit) → Bool → World → Prop)  (M3 : ∀ (x : (Unit)) (w : World), X x false w → w.cell? ⟨B, 10, none⟩ = some (.int .i64 ini)) (C1 : ∀ (x : (Unit)) (w : World), X x false w → Calls Tryz.prog 21 #[.pointer (some ⟨p, 0, none⟩)] w fun e w' => e = .returned (.pointer (some ⟨l, 0, none⟩)) ∧ X x false w') (C4 : ∀ (x : (Unit)) (w : World), X x false w → Calls Tryz.prog 22 #[.pointer (some ⟨l, 0, none⟩), .int .i64 ini, .int .i64 0] w fun e w' => e = .returned (.int .i64 0) ∧ X x true w') (t0 : Array Value) (hz : t0.size = 44) (ht1 : t0[1]? = some (.pointer (some ⟨B, 0, none⟩))) (ht4 : t0[4]? = some (.pointer (some ⟨p, 0, none⟩))) {id : Nat} {Q : Exit → Act → World → Prop} {w : World} (x0 : (Unit)) (start : X x0 false w.drew) (fin : ∀ x w', X x true w' → Q .normal ⟨puts ((lay_new4 B p l ini) x) t0, []⟩ w') : (Code.region id ops true).wp Tryz.prog Q ⟨t0, []⟩ w := by
  subst ho
  refine wp_regX (Wd := (fun x L => X x (L 4))) 5 rfl new4_acyc new4_size (fun _ => rfl) (new4_nodup B p l ini) (fun x => by rw [new4_dsts, hz]; rfl) x0 start (fun i hi => new4_step B p l ini X  M3 C1 C4 t0 hz ht1 ht4 Q i hi) fun x L w' hl hw => fin x w' ?_
  have hw : X x (L 4) w' := hw
  rw [hl 4 (by omega)] at hw
  exact hw
noncomputable def R_new6 : Array Oper := reg Tryz.f8 6
theorem new6_size : R_new6.size = 12 := by kernel_rfl
theorem new6_acyc : acycB R_new6 = true := by kernel_rfl
/-- What the operations lay. -/
noncomputable def lay_new6 (bu : Int) (ini : Int) (li : Int) (rd : Int) (B : Nat) (p : Nat) (ex : Int) (px : Bool) (_ : Unit) : Lay := [(some 32, .pointer (some ⟨p, 0, none⟩)),
  (some 33, .agg (ca bu ini li rd)),
  (some 34, .pointer (some ⟨B, 10, none⟩)),
  (some 35, .int .i64 ini),
  (some 36, .agg (ca bu ini li rd)),
  (some 37, .pointer (some ⟨B, 10, none⟩)),
  (some 38, .int .i64 ini),
  (some 39, .int .i64 ex),
  (some 40, .bool px),
  (some 41, .pointer (some ⟨p, 0, none⟩)),
  (some 42, .pointer (some ⟨p, 30, none⟩)),
  (none, undef)]
theorem new6_dsts (bu : Int) (ini : Int) (li : Int) (rd : Int) (B : Nat) (p : Nat) (ex : Int) (px : Bool) (x : Unit) : dsts (lay_new6 bu ini li rd B p ex px x) = [32, 33, 34, 35, 36, 37, 38, 39, 40, 41, 42] := rfl
theorem new6_nodup (bu : Int) (ini : Int) (li : Int) (rd : Int) (B : Nat) (p : Nat) (ex : Int) (px : Bool) (x : Unit) : (dsts (lay_new6 bu ini li rd B p ex px x)).Nodup := by rw [new6_dsts]; decide
section
variable (bu : Int) (ini : Int) (li : Int) (rd : Int) (B : Nat) (p : Nat) (ex : Int) (px : Bool) (X : (Unit) → Bool → World → Prop)
theorem new6_0 (t0 : Array Value) (hz : t0.size = 44) (ht4 : t0[4]? = some (.pointer (some ⟨p, 0, none⟩))) (Q : Exit → Act → World → Prop) : RStepX Tryz.prog R_new6 (lay_new6 bu ini li rd B p ex px) t0 (fun x L => X x (L 11)) Q 0 := by
  intro x L o a w ho hL hd hI
  have f4 : a.tmps[4]? = some (.pointer (some ⟨p, 0, none⟩)) := hI.from ht4 rfl
  have h : R_new6[0]? = some R_new6[0] := rfl
  conv at h => rhs; arg 1; whnf
  simp only [wpOp, h]
  rw [if_pos (by rfl)]
  left
  go_simp
  exact ⟨x, hI.put (new6_nodup bu ini li rd B p ex px _) 0 ho hd _ _ _ rfl (.inr (rfl)) (by intro e he; cases he; exact hz ▸ (by decide : (32 : Nat) < 44)) hI.wd⟩
theorem new6_1 (M1 : ∀ (x : (Unit)) (w : World), X x false w → rowOf w B (0) 20 = some (.agg (ca bu ini li rd))) (t0 : Array Value) (hz : t0.size = 44) (ht1 : t0[1]? = some (.pointer (some ⟨B, 0, none⟩))) (Q : Exit → Act → World → Prop) : RStepX Tryz.prog R_new6 (lay_new6 bu ini li rd B p ex px) t0 (fun x L => X x (L 11)) Q 1 := by
  intro x L o a w ho hL hd hI
  have f1 : a.tmps[1]? = some (.pointer (some ⟨B, 0, none⟩)) := hI.from ht1 rfl
  have z11 : L 11 = false := by
    cases q11 : L 11 with
    | false => rfl
    | true =>
      have q1 : L 1 = true := hI.tr q11 (by kernel_rfl)
      rw [hL] at q1; cases q1
  have hw : X x (L 11) w := hI.wd
  rw [z11] at hw
  have hv := M1 x  w hw
  have h : R_new6[1]? = some R_new6[1] := rfl
  conv at h => rhs; arg 1; whnf
  simp only [wpOp, h]
  rw [if_pos (by rfl)]
  left
  go_simp
  exact ⟨x, hI.put (new6_nodup bu ini li rd B p ex px _) 1 ho hd _ _ _ rfl (.inr (rfl)) (by intro e he; cases he; exact hz ▸ (by decide : (33 : Nat) < 44)) hI.wd⟩
theorem new6_2 (t0 : Array Value) (hz : t0.size = 44) (ht1 : t0[1]? = some (.pointer (some ⟨B, 0, none⟩))) (Q : Exit → Act → World → Prop) : RStepX Tryz.prog R_new6 (lay_new6 bu ini li rd B p ex px) t0 (fun x L => X x (L 11)) Q 2 := by
  intro x L o a w ho hL hd hI
  have f1 : a.tmps[1]? = some (.pointer (some ⟨B, 0, none⟩)) := hI.from ht1 rfl
  have h : R_new6[2]? = some R_new6[2] := rfl
  conv at h => rhs; arg 1; whnf
  simp only [wpOp, h]
  rw [if_pos (by rfl)]
  left
  go_simp
  exact ⟨x, hI.put (new6_nodup bu ini li rd B p ex px _) 2 ho hd _ _ _ rfl (.inr (rfl)) (by intro e he; cases he; exact hz ▸ (by decide : (34 : Nat) < 44)) hI.wd⟩
theorem new6_3 (M3 : ∀ (x : (Unit)) (w : World), X x false w → w.cell? ⟨B, 10, none⟩ = some (.int .i64 ini)) (t0 : Array Value) (hz : t0.size = 44) (Q : Exit → Act → World → Prop) : RStepX Tryz.prog R_new6 (lay_new6 bu ini li rd B p ex px) t0 (fun x L => X x (L 11)) Q 3 := by
  intro x L o a w ho hL hd hI
  have d2 : L 2 = true := dep_spec ho hd (k := 2) (by kernel_rfl)
  have f34 : a.tmps[34]? = some (.pointer (some ⟨B, 10, none⟩)) := hI.at 2 rfl d2
  have z11 : L 11 = false := by
    cases q11 : L 11 with
    | false => rfl
    | true =>
      have q3 : L 3 = true := hI.tr q11 (by kernel_rfl)
      rw [hL] at q3; cases q3
  have hw : X x (L 11) w := hI.wd
  rw [z11] at hw
  have hv := M3 x  w hw
  have h : R_new6[3]? = some R_new6[3] := rfl
  conv at h => rhs; arg 1; whnf
  simp only [wpOp, h]
  rw [if_pos (by rfl)]
  left
  go_simp
  exact ⟨x, hI.put (new6_nodup bu ini li rd B p ex px _) 3 ho hd _ _ _ rfl (.inr (rfl)) (by intro e he; cases he; exact hz ▸ (by decide : (35 : Nat) < 44)) hI.wd⟩
theorem new6_4 (M1 : ∀ (x : (Unit)) (w : World), X x false w → rowOf w B (0) 20 = some (.agg (ca bu ini li rd))) (t0 : Array Value) (hz : t0.size = 44) (ht1 : t0[1]? = some (.pointer (some ⟨B, 0, none⟩))) (Q : Exit → Act → World → Prop) : RStepX Tryz.prog R_new6 (lay_new6 bu ini li rd B p ex px) t0 (fun x L => X x (L 11)) Q 4 := by
  intro x L o a w ho hL hd hI
  have f1 : a.tmps[1]? = some (.pointer (some ⟨B, 0, none⟩)) := hI.from ht1 rfl
  have z11 : L 11 = false := by
    cases q11 : L 11 with
    | false => rfl
    | true =>
      have q4 : L 4 = true := hI.tr q11 (by kernel_rfl)
      rw [hL] at q4; cases q4
  have hw : X x (L 11) w := hI.wd
  rw [z11] at hw
  have hv := M1 x  w hw
  have h : R_new6[4]? = some R_new6[4] := rfl
  conv at h => rhs; arg 1; whnf
  simp only [wpOp, h]
  rw [if_pos (by rfl)]
  left
  go_simp
  exact ⟨x, hI.put (new6_nodup bu ini li rd B p ex px _) 4 ho hd _ _ _ rfl (.inr (rfl)) (by intro e he; cases he; exact hz ▸ (by decide : (36 : Nat) < 44)) hI.wd⟩
theorem new6_5 (t0 : Array Value) (hz : t0.size = 44) (ht1 : t0[1]? = some (.pointer (some ⟨B, 0, none⟩))) (Q : Exit → Act → World → Prop) : RStepX Tryz.prog R_new6 (lay_new6 bu ini li rd B p ex px) t0 (fun x L => X x (L 11)) Q 5 := by
  intro x L o a w ho hL hd hI
  have f1 : a.tmps[1]? = some (.pointer (some ⟨B, 0, none⟩)) := hI.from ht1 rfl
  have h : R_new6[5]? = some R_new6[5] := rfl
  conv at h => rhs; arg 1; whnf
  simp only [wpOp, h]
  rw [if_pos (by rfl)]
  left
  go_simp
  exact ⟨x, hI.put (new6_nodup bu ini li rd B p ex px _) 5 ho hd _ _ _ rfl (.inr (rfl)) (by intro e he; cases he; exact hz ▸ (by decide : (37 : Nat) < 44)) hI.wd⟩
theorem new6_6 (M3 : ∀ (x : (Unit)) (w : World), X x false w → w.cell? ⟨B, 10, none⟩ = some (.int .i64 ini)) (t0 : Array Value) (hz : t0.size = 44) (Q : Exit → Act → World → Prop) : RStepX Tryz.prog R_new6 (lay_new6 bu ini li rd B p ex px) t0 (fun x L => X x (L 11)) Q 6 := by
  intro x L o a w ho hL hd hI
  have d5 : L 5 = true := dep_spec ho hd (k := 5) (by kernel_rfl)
  have f37 : a.tmps[37]? = some (.pointer (some ⟨B, 10, none⟩)) := hI.at 5 rfl d5
  have z11 : L 11 = false := by
    cases q11 : L 11 with
    | false => rfl
    | true =>
      have q6 : L 6 = true := hI.tr q11 (by kernel_rfl)
      rw [hL] at q6; cases q6
  have hw : X x (L 11) w := hI.wd
  rw [z11] at hw
  have hv := M3 x  w hw
  have h : R_new6[6]? = some R_new6[6] := rfl
  conv at h => rhs; arg 1; whnf
  simp only [wpOp, h]
  rw [if_pos (by rfl)]
  left
  go_simp
  exact ⟨x, hI.put (new6_nodup bu ini li rd B p ex px _) 6 ho hd _ _ _ rfl (.inr (rfl)) (by intro e he; cases he; exact hz ▸ (by decide : (38 : Nat) < 44)) hI.wd⟩
theorem new6_7 (C7 : ∀ (x : (Unit)) (w : World), X x false w → Calls Tryz.prog 25 #[.agg (ca bu ini li rd), .int .i64 ini, .int .i64 0] w fun e w' => e = .returned (.int .i64 ex) ∧ X x false w') (t0 : Array Value) (hz : t0.size = 44) (Q : Exit → Act → World → Prop) : RStepX Tryz.prog R_new6 (lay_new6 bu ini li rd B p ex px) t0 (fun x L => X x (L 11)) Q 7 := by
  intro x L o a w ho hL hd hI
  have d4 : L 4 = true := dep_spec ho hd (k := 4) (by kernel_rfl)
  have f36 : a.tmps[36]? = some (.agg (ca bu ini li rd)) := hI.at 4 rfl d4
  have d6 : L 6 = true := dep_spec ho hd (k := 6) (by kernel_rfl)
  have f38 : a.tmps[38]? = some (.int .i64 ini) := hI.at 6 rfl d6
  have z11 : L 11 = false := by
    cases q11 : L 11 with
    | false => rfl
    | true =>
      have q7 : L 7 = true := hI.tr q11 (by kernel_rfl)
      rw [hL] at q7; cases q7
  have hw : X x (L 11) w := hI.wd
  rw [z11] at hw
  have h : R_new6[7]? = some R_new6[7] := rfl
  conv at h => rhs; arg 1; whnf
  simp only [wpOp, h]
  rw [if_pos (by rfl)]
  left
  go_simp
  refine (C7 x  w hw).mono ?_
  rintro e w' ⟨rfl, hx⟩
  have hx2 : X x (L 11) w' := by
    rw [z11]
    exact hx
  exact ⟨x, ((hI.rewd (Wd' := fun _ _ => True) (w' := w) trivial).put (w' := w) (new6_nodup bu ini li rd B p ex px _) 7 ho hd _ _ _ rfl (.inr (rfl)) (by intro e he; cases he; exact hz ▸ (by decide : (39 : Nat) < 44)) trivial).rewd hx2⟩
theorem new6_8 (C8 : ∀ (x : (Unit)) (w : World), X x false w → Calls Tryz.prog 24 #[.agg (ca bu ini li rd), .int .i64 ini, .int .i64 ex] w fun e w' => e = .returned (.bool px) ∧ X x false w') (t0 : Array Value) (hz : t0.size = 44) (Q : Exit → Act → World → Prop) : RStepX Tryz.prog R_new6 (lay_new6 bu ini li rd B p ex px) t0 (fun x L => X x (L 11)) Q 8 := by
  intro x L o a w ho hL hd hI
  have d1 : L 1 = true := dep_spec ho hd (k := 1) (by kernel_rfl)
  have f33 : a.tmps[33]? = some (.agg (ca bu ini li rd)) := hI.at 1 rfl d1
  have d3 : L 3 = true := dep_spec ho hd (k := 3) (by kernel_rfl)
  have f35 : a.tmps[35]? = some (.int .i64 ini) := hI.at 3 rfl d3
  have d7 : L 7 = true := dep_spec ho hd (k := 7) (by kernel_rfl)
  have f39 : a.tmps[39]? = some (.int .i64 ex) := hI.at 7 rfl d7
  have z11 : L 11 = false := by
    cases q11 : L 11 with
    | false => rfl
    | true =>
      have q8 : L 8 = true := hI.tr q11 (by kernel_rfl)
      rw [hL] at q8; cases q8
  have hw : X x (L 11) w := hI.wd
  rw [z11] at hw
  have h : R_new6[8]? = some R_new6[8] := rfl
  conv at h => rhs; arg 1; whnf
  simp only [wpOp, h]
  rw [if_pos (by rfl)]
  left
  go_simp
  refine (C8 x  w hw).mono ?_
  rintro e w' ⟨rfl, hx⟩
  have hx2 : X x (L 11) w' := by
    rw [z11]
    exact hx
  exact ⟨x, ((hI.rewd (Wd' := fun _ _ => True) (w' := w) trivial).put (w' := w) (new6_nodup bu ini li rd B p ex px _) 8 ho hd _ _ _ rfl (.inr (rfl)) (by intro e he; cases he; exact hz ▸ (by decide : (40 : Nat) < 44)) trivial).rewd hx2⟩
theorem new6_9 (t0 : Array Value) (hz : t0.size = 44) (Q : Exit → Act → World → Prop) : RStepX Tryz.prog R_new6 (lay_new6 bu ini li rd B p ex px) t0 (fun x L => X x (L 11)) Q 9 := by
  intro x L o a w ho hL hd hI
  have d0 : L 0 = true := dep_spec ho hd (k := 0) (by kernel_rfl)
  have f32 : a.tmps[32]? = some (.pointer (some ⟨p, 0, none⟩)) := hI.at 0 rfl d0
  have h : R_new6[9]? = some R_new6[9] := rfl
  conv at h => rhs; arg 1; whnf
  simp only [wpOp, h]
  rw [if_pos (by rfl)]
  left
  go_simp
  exact ⟨x, hI.put (new6_nodup bu ini li rd B p ex px _) 9 ho hd _ _ _ rfl (.inr (rfl)) (by intro e he; cases he; exact hz ▸ (by decide : (41 : Nat) < 44)) hI.wd⟩
theorem new6_10 (t0 : Array Value) (hz : t0.size = 44) (Q : Exit → Act → World → Prop) : RStepX Tryz.prog R_new6 (lay_new6 bu ini li rd B p ex px) t0 (fun x L => X x (L 11)) Q 10 := by
  intro x L o a w ho hL hd hI
  have d9 : L 9 = true := dep_spec ho hd (k := 9) (by kernel_rfl)
  have f41 : a.tmps[41]? = some (.pointer (some ⟨p, 0, none⟩)) := hI.at 9 rfl d9
  have h : R_new6[10]? = some R_new6[10] := rfl
  conv at h => rhs; arg 1; whnf
  simp only [wpOp, h]
  rw [if_pos (by rfl)]
  left
  go_simp
  exact ⟨x, hI.put (new6_nodup bu ini li rd B p ex px _) 10 ho hd _ _ _ rfl (.inr (rfl)) (by intro e he; cases he; exact hz ▸ (by decide : (42 : Nat) < 44)) hI.wd⟩
theorem new6_11 (S11 : ∀ (x : (Unit)) (w : World), X x false w → ∃ u0, w.cell? ⟨p, 30, none⟩ = some u0 ∧ w.frozen? ⟨p, 30, none⟩ = false ∧ X x true (w.setCell ⟨p, 30, none⟩ (.bool px))) (t0 : Array Value) (hz : t0.size = 44) (Q : Exit → Act → World → Prop) : RStepX Tryz.prog R_new6 (lay_new6 bu ini li rd B p ex px) t0 (fun x L => X x (L 11)) Q 11 := by
  intro x L o a w ho hL hd hI
  have _ := hz
  have d10 : L 10 = true := dep_spec ho hd (k := 10) (by kernel_rfl)
  have f42 : a.tmps[42]? = some (.pointer (some ⟨p, 30, none⟩)) := hI.at 10 rfl d10
  have d8 : L 8 = true := dep_spec ho hd (k := 8) (by kernel_rfl)
  have f40 : a.tmps[40]? = some (.bool px) := hI.at 8 rfl d8
  have z11 : L 11 = false := hL
  have hw : X x (L 11) w := hI.wd
  rw [z11] at hw
  obtain ⟨u0, c0, g0, hx⟩ := S11 x  w hw
  have h : R_new6[11]? = some R_new6[11] := rfl
  conv at h => rhs; arg 1; whnf
  simp only [wpOp, h]
  rw [if_pos (by rfl)]
  left
  go_simp
  have hx2 : X x true (w.setCell ⟨p, 30, none⟩ (.bool px)) := by
    exact hx
  exact ⟨x, ((hI.rewd (Wd' := fun _ _ => True) (w' := w) trivial).put (w' := w) (new6_nodup bu ini li rd B p ex px _) 11 ho hd none undef undef rfl (.inl rfl) (by intro e he; cases he) trivial).rewd hx2⟩
theorem new6_step (M1 : ∀ (x : (Unit)) (w : World), X x false w → rowOf w B (0) 20 = some (.agg (ca bu ini li rd))) (M3 : ∀ (x : (Unit)) (w : World), X x false w → w.cell? ⟨B, 10, none⟩ = some (.int .i64 ini)) (C7 : ∀ (x : (Unit)) (w : World), X x false w → Calls Tryz.prog 25 #[.agg (ca bu ini li rd), .int .i64 ini, .int .i64 0] w fun e w' => e = .returned (.int .i64 ex) ∧ X x false w') (C8 : ∀ (x : (Unit)) (w : World), X x false w → Calls Tryz.prog 24 #[.agg (ca bu ini li rd), .int .i64 ini, .int .i64 ex] w fun e w' => e = .returned (.bool px) ∧ X x false w') (S11 : ∀ (x : (Unit)) (w : World), X x false w → ∃ u0, w.cell? ⟨p, 30, none⟩ = some u0 ∧ w.frozen? ⟨p, 30, none⟩ = false ∧ X x true (w.setCell ⟨p, 30, none⟩ (.bool px))) (t0 : Array Value) (hz : t0.size = 44) (ht1 : t0[1]? = some (.pointer (some ⟨B, 0, none⟩))) (ht4 : t0[4]? = some (.pointer (some ⟨p, 0, none⟩))) (Q : Exit → Act → World → Prop) : ∀ i, i < 12 → RStepX Tryz.prog R_new6 (lay_new6 bu ini li rd B p ex px) t0 (fun x L => X x (L 11)) Q i
  | 0, _ => new6_0 bu ini li rd B p ex px X   t0 hz ht4 Q
  | 1, _ => new6_1 bu ini li rd B p ex px X  M1 t0 hz ht1 Q
  | 2, _ => new6_2 bu ini li rd B p ex px X   t0 hz ht1 Q
  | 3, _ => new6_3 bu ini li rd B p ex px X  M3 t0 hz  Q
  | 4, _ => new6_4 bu ini li rd B p ex px X  M1 t0 hz ht1 Q
  | 5, _ => new6_5 bu ini li rd B p ex px X   t0 hz ht1 Q
  | 6, _ => new6_6 bu ini li rd B p ex px X  M3 t0 hz  Q
  | 7, _ => new6_7 bu ini li rd B p ex px X  C7 t0 hz  Q
  | 8, _ => new6_8 bu ini li rd B p ex px X  C8 t0 hz  Q
  | 9, _ => new6_9 bu ini li rd B p ex px X   t0 hz  Q
  | 10, _ => new6_10 bu ini li rd B p ex px X   t0 hz  Q
  | 11, _ => new6_11 bu ini li rd B p ex px X  S11 t0 hz  Q
  | k + 12, h => absurd h (by omega)
end
theorem new6_at {ops : Array Oper} (ho : ops = R_new6) (bu : Int) (ini : Int) (li : Int) (rd : Int) (B : Nat) (p : Nat) (ex : Int) (px : Bool) (X : (Unit) → Bool → World → Prop)  (M1 : ∀ (x : (Unit)) (w : World), X x false w → rowOf w B (0) 20 = some (.agg (ca bu ini li rd))) (M3 : ∀ (x : (Unit)) (w : World), X x false w → w.cell? ⟨B, 10, none⟩ = some (.int .i64 ini)) (C7 : ∀ (x : (Unit)) (w : World), X x false w → Calls Tryz.prog 25 #[.agg (ca bu ini li rd), .int .i64 ini, .int .i64 0] w fun e w' => e = .returned (.int .i64 ex) ∧ X x false w') (C8 : ∀ (x : (Unit)) (w : World), X x false w → Calls Tryz.prog 24 #[.agg (ca bu ini li rd), .int .i64 ini, .int .i64 ex] w fun e w' => e = .returned (.bool px) ∧ X x false w') (S11 : ∀ (x : (Unit)) (w : World), X x false w → ∃ u0, w.cell? ⟨p, 30, none⟩ = some u0 ∧ w.frozen? ⟨p, 30, none⟩ = false ∧ X x true (w.setCell ⟨p, 30, none⟩ (.bool px))) (t0 : Array Value) (hz : t0.size = 44) (ht1 : t0[1]? = some (.pointer (some ⟨B, 0, none⟩))) (ht4 : t0[4]? = some (.pointer (some ⟨p, 0, none⟩))) {id : Nat} {Q : Exit → Act → World → Prop} {w : World} (x0 : (Unit)) (start : X x0 false w.drew) (fin : ∀ x w', X x true w' → Q .normal ⟨puts ((lay_new6 bu ini li rd B p ex px) x) t0, []⟩ w') : (Code.region id ops true).wp Tryz.prog Q ⟨t0, []⟩ w := by
  subst ho
  refine wp_regX (Wd := (fun x L => X x (L 11))) 12 rfl new6_acyc new6_size (fun _ => rfl) (new6_nodup bu ini li rd B p ex px) (fun x => by rw [new6_dsts, hz]; rfl) x0 start (fun i hi => new6_step bu ini li rd B p ex px X  M1 M3 C7 C8 S11 t0 hz ht1 ht4 Q i hi) fun x L w' hl hw => fin x w' ?_
  have hw : X x (L 11) w' := hw
  rw [hl 11 (by omega)] at hw
  exact hw
end Go.Proofs.YtdgphoemjeakaaaGreatDoor.Y
