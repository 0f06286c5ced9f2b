/- The whole service: regions that draw their order. The whole service: stand. -/
import Derived.Test.YtdgphoemjeakaaaGreatDoorQ11
import Derived.Test.YtdgphoemjeakaaaGreatDoorQ09
/-! The whole service: regions that draw their order. -/
namespace Go.Proofs.YtdgphoemjeakaaaGreatDoor.Y
open Go.RowKit Go.Proofs.YtdgphoemjeakaaaGreatDoor.K Go.Proofs.YtdgphoemjeakaaaGreatDoor.P Go.Proofs.YtdgphoemjeakaaaGreatDoor.W Go.Proofs.YtdgphoemjeakaaaGreatDoor.Rg
set_option maxRecDepth 100000

noncomputable def R_stand : Array Oper := reg Tryz.f53 0
theorem stand_size : R_stand.size = 21 := by kernel_rfl
theorem stand_acyc : acycB R_stand = true := by kernel_rfl
/-- What the operations lay. -/
noncomputable def lay_stand (p : Nat) (g : Nat) (of : Nat) (n : Nat) (c : Nat) (k : Nat) (st : Int) (now : Int) (_ : Unit) : Lay := [(some 6, .pointer (some ⟨p, 0, none⟩)),
  (some 7, .pointer (some ⟨p, 0, none⟩)),
  (some 8, .pointer (some ⟨p, 22, none⟩)),
  (some 9, .slice (some ⟨g, of, none⟩) (n) (c)),
  (some 10, .int .i64 k),
  (some 11, .pointer (some ⟨p, 0, none⟩)),
  (some 12, .pointer (some ⟨p, 0, none⟩)),
  (some 13, .pointer (some ⟨p, 22, none⟩)),
  (some 14, .slice (some ⟨g, of, none⟩) (n) (c)),
  (some 15, .int .i64 k),
  (some 16, .int .i64 st),
  (some 17, .pointer (some ⟨p, 0, none⟩)),
  (some 18, .pointer (some ⟨p, 0, none⟩)),
  (some 19, .pointer (some ⟨p, 20, none⟩)),
  (some 20, .int .i64 now),
  (some 21, .pointer (some ⟨g, of + k * 4, none⟩)),
  (some 22, .pointer (some ⟨g, of + k * 4 + 2, none⟩)),
  (none, undef),
  (some 23, .pointer (some ⟨g, of + k * 4, none⟩)),
  (some 24, .pointer (some ⟨g, of + k * 4 + 1, none⟩)),
  (none, undef)]
theorem stand_dsts (p : Nat) (g : Nat) (of : Nat) (n : Nat) (c : Nat) (k : Nat) (st : Int) (now : Int) (x : Unit) : dsts (lay_stand p g of n c k st now x) = [6, 7, 8, 9, 10, 11, 12, 13, 14, 15, 16, 17, 18, 19, 20, 21, 22, 23, 24] := rfl
theorem stand_nodup (p : Nat) (g : Nat) (of : Nat) (n : Nat) (c : Nat) (k : Nat) (st : Int) (now : Int) (x : Unit) : (dsts (lay_stand p g of n c k st now x)).Nodup := by rw [stand_dsts]; decide
section
variable (p : Nat) (g : Nat) (of : Nat) (n : Nat) (c : Nat) (k : Nat) (st : Int) (now : Int) (X : (Unit) → Bool → Bool → World → Prop)
theorem stand_0 (hk : k < n) (t0 : Array Value) (hz : t0.size = 25) (ht0 : t0[0]? = some (.pointer (some ⟨p, 0, none⟩))) (Q : Exit → Act → World → Prop) : RStepX Tryz.prog R_stand (lay_stand p g of n c k st now) t0 (fun x L => X x (L 17) (L 20)) Q 0 := by
  intro x L o a w ho hL hd hI
  have _ := hk
  have f0 : a.tmps[0]? = some (.pointer (some ⟨p, 0, none⟩)) := hI.from ht0 rfl
  have h : R_stand[0]? = some R_stand[0] := rfl
  conv at h => rhs; arg 1; whnf
  simp only [wpOp, h]
  rw [if_pos (by rfl)]
  left
  go_simp
  exact ⟨x, hI.put (stand_nodup p g of n c k st now _) 0 ho hd _ _ _ rfl (.inr rfl) (by intro e he; cases he; exact hz ▸ (by decide : (6 : Nat) < 25)) hI.wd⟩
theorem stand_1 (hk : k < n) (t0 : Array Value) (hz : t0.size = 25) (Q : Exit → Act → World → Prop) : RStepX Tryz.prog R_stand (lay_stand p g of n c k st now) t0 (fun x L => X x (L 17) (L 20)) Q 1 := by
  intro x L o a w ho hL hd hI
  have _ := hk
  have d0 : L 0 = true := dep_spec ho hd (k := 0) (by kernel_rfl)
  have f6 : a.tmps[6]? = some (.pointer (some ⟨p, 0, none⟩)) := hI.at 0 rfl d0
  have h : R_stand[1]? = some R_stand[1] := rfl
  conv at h => rhs; arg 1; whnf
  simp only [wpOp, h]
  rw [if_pos (by rfl)]
  left
  go_simp
  exact ⟨x, hI.put (stand_nodup p g of n c k st now _) 1 ho hd _ _ _ rfl (.inr rfl) (by intro e he; cases he; exact hz ▸ (by decide : (7 : Nat) < 25)) hI.wd⟩
theorem stand_2 (hk : k < n) (t0 : Array Value) (hz : t0.size = 25) (Q : Exit → Act → World → Prop) : RStepX Tryz.prog R_stand (lay_stand p g of n c k st now) t0 (fun x L => X x (L 17) (L 20)) Q 2 := by
  intro x L o a w ho hL hd hI
  have _ := hk
  have d1 : L 1 = true := dep_spec ho hd (k := 1) (by kernel_rfl)
  have f7 : a.tmps[7]? = some (.pointer (some ⟨p, 0, none⟩)) := hI.at 1 rfl d1
  have h : R_stand[2]? = some R_stand[2] := rfl
  conv at h => rhs; arg 1; whnf
  simp only [wpOp, h]
  rw [if_pos (by rfl)]
  left
  go_simp
  exact ⟨x, hI.put (stand_nodup p g of n c k st now _) 2 ho hd _ _ _ rfl (.inr rfl) (by intro e he; cases he; exact hz ▸ (by decide : (8 : Nat) < 25)) hI.wd⟩
theorem stand_3 (hk : k < n) (M3 : ∀ (x : (Unit)) (w : World), X x false false w → w.cell? ⟨p, 22, none⟩ = some (.slice (some ⟨g, of, none⟩) (n) (c))) (t0 : Array Value) (hz : t0.size = 25) (Q : Exit → Act → World → Prop) : RStepX Tryz.prog R_stand (lay_stand p g of n c k st now) t0 (fun x L => X x (L 17) (L 20)) Q 3 := by
  intro x L o a w ho hL hd hI
  have _ := hk
  have d2 : L 2 = true := dep_spec ho hd (k := 2) (by kernel_rfl)
  have f8 : a.tmps[8]? = some (.pointer (some ⟨p, 22, none⟩)) := hI.at 2 rfl d2
  have z17 : L 17 = false := by
    cases q17 : L 17 with
    | false => rfl
    | true =>
      have q3 : L 3 = true := hI.tr q17 (by kernel_rfl)
      rw [hL] at q3; cases q3
  have z20 : L 20 = false := by
    cases q20 : L 20 with
    | false => rfl
    | true =>
      have q3 : L 3 = true := hI.tr q20 (by kernel_rfl)
      rw [hL] at q3; cases q3
  have hw : X x (L 17) (L 20) w := hI.wd
  rw [z17, z20] at hw
  have hv := M3 x  w hw
  have h : R_stand[3]? = some R_stand[3] := rfl
  conv at h => rhs; arg 1; whnf
  simp only [wpOp, h]
  rw [if_pos (by rfl)]
  left
  go_simp
  exact ⟨x, hI.put (stand_nodup p g of n c k st now _) 3 ho hd _ _ _ rfl (.inr rfl) (by intro e he; cases he; exact hz ▸ (by decide : (9 : Nat) < 25)) hI.wd⟩
theorem stand_4 (hk : k < n) (t0 : Array Value) (hz : t0.size = 25) (ht1 : t0[1]? = some (.int .i64 k)) (Q : Exit → Act → World → Prop) : RStepX Tryz.prog R_stand (lay_stand p g of n c k st now) t0 (fun x L => X x (L 17) (L 20)) Q 4 := by
  intro x L o a w ho hL hd hI
  have _ := hk
  have f1 : a.tmps[1]? = some (.int .i64 k) := hI.from ht1 rfl
  have h : R_stand[4]? = some R_stand[4] := rfl
  conv at h => rhs; arg 1; whnf
  simp only [wpOp, h]
  rw [if_pos (by rfl)]
  left
  go_simp
  exact ⟨x, hI.put (stand_nodup p g of n c k st now _) 4 ho hd _ _ _ rfl (.inr rfl) (by intro e he; cases he; exact hz ▸ (by decide : (10 : Nat) < 25)) hI.wd⟩
theorem stand_5 (hk : k < n) (t0 : Array Value) (hz : t0.size = 25) (ht0 : t0[0]? = some (.pointer (some ⟨p, 0, none⟩))) (Q : Exit → Act → World → Prop) : RStepX Tryz.prog R_stand (lay_stand p g of n c k st now) t0 (fun x L => X x (L 17) (L 20)) Q 5 := by
  intro x L o a w ho hL hd hI
  have _ := hk
  have f0 : a.tmps[0]? = some (.pointer (some ⟨p, 0, none⟩)) := hI.from ht0 rfl
  have h : R_stand[5]? = some R_stand[5] := rfl
  conv at h => rhs; arg 1; whnf
  simp only [wpOp, h]
  rw [if_pos (by rfl)]
  left
  go_simp
  exact ⟨x, hI.put (stand_nodup p g of n c k st now _) 5 ho hd _ _ _ rfl (.inr rfl) (by intro e he; cases he; exact hz ▸ (by decide : (11 : Nat) < 25)) hI.wd⟩
theorem stand_6 (hk : k < n) (t0 : Array Value) (hz : t0.size = 25) (Q : Exit → Act → World → Prop) : RStepX Tryz.prog R_stand (lay_stand p g of n c k st now) t0 (fun x L => X x (L 17) (L 20)) Q 6 := by
  intro x L o a w ho hL hd hI
  have _ := hk
  have d5 : L 5 = true := dep_spec ho hd (k := 5) (by kernel_rfl)
  have f11 : a.tmps[11]? = some (.pointer (some ⟨p, 0, none⟩)) := hI.at 5 rfl d5
  have h : R_stand[6]? = some R_stand[6] := rfl
  conv at h => rhs; arg 1; whnf
  simp only [wpOp, h]
  rw [if_pos (by rfl)]
  left
  go_simp
  exact ⟨x, hI.put (stand_nodup p g of n c k st now _) 6 ho hd _ _ _ rfl (.inr rfl) (by intro e he; cases he; exact hz ▸ (by decide : (12 : Nat) < 25)) hI.wd⟩
theorem stand_7 (hk : k < n) (t0 : Array Value) (hz : t0.size = 25) (Q : Exit → Act → World → Prop) : RStepX Tryz.prog R_stand (lay_stand p g of n c k st now) t0 (fun x L => X x (L 17) (L 20)) Q 7 := by
  intro x L o a w ho hL hd hI
  have _ := hk
  have d6 : L 6 = true := dep_spec ho hd (k := 6) (by kernel_rfl)
  have f12 : a.tmps[12]? = some (.pointer (some ⟨p, 0, none⟩)) := hI.at 6 rfl d6
  have h : R_stand[7]? = some R_stand[7] := rfl
  conv at h => rhs; arg 1; whnf
  simp only [wpOp, h]
  rw [if_pos (by rfl)]
  left
  go_simp
  exact ⟨x, hI.put (stand_nodup p g of n c k st now _) 7 ho hd _ _ _ rfl (.inr rfl) (by intro e he; cases he; exact hz ▸ (by decide : (13 : Nat) < 25)) hI.wd⟩
theorem stand_8 (hk : k < n) (M3 : ∀ (x : (Unit)) (w : World), X x false false w → w.cell? ⟨p, 22, none⟩ = some (.slice (some ⟨g, of, none⟩) (n) (c))) (t0 : Array Value) (hz : t0.size = 25) (Q : Exit → Act → World → Prop) : RStepX Tryz.prog R_stand (lay_stand p g of n c k st now) t0 (fun x L => X x (L 17) (L 20)) Q 8 := by
  intro x L o a w ho hL hd hI
  have _ := hk
  have d7 : L 7 = true := dep_spec ho hd (k := 7) (by kernel_rfl)
  have f13 : a.tmps[13]? = some (.pointer (some ⟨p, 22, none⟩)) := hI.at 7 rfl d7
  have z17 : L 17 = false := by
    cases q17 : L 17 with
    | false => rfl
    | true =>
      have q8 : L 8 = true := hI.tr q17 (by kernel_rfl)
      rw [hL] at q8; cases q8
  have z20 : L 20 = false := by
    cases q20 : L 20 with
    | false => rfl
    | true =>
      have q8 : L 8 = true := hI.tr q20 (by kernel_rfl)
      rw [hL] at q8; cases q8
  have hw : X x (L 17) (L 20) w := hI.wd
  rw [z17, z20] at hw
  have hv := M3 x  w hw
  have h : R_stand[8]? = some R_stand[8] := rfl
  conv at h => rhs; arg 1; whnf
  simp only [wpOp, h]
  rw [if_pos (by rfl)]
  left
  go_simp
  exact ⟨x, hI.put (stand_nodup p g of n c k st now _) 8 ho hd _ _ _ rfl (.inr rfl) (by intro e he; cases he; exact hz ▸ (by decide : (14 : Nat) < 25)) hI.wd⟩
theorem stand_9 (hk : k < n) (t0 : Array Value) (hz : t0.size = 25) (ht1 : t0[1]? = some (.int .i64 k)) (Q : Exit → Act → World → Prop) : RStepX Tryz.prog R_stand (lay_stand p g of n c k st now) t0 (fun x L => X x (L 17) (L 20)) Q 9 := by
  intro x L o a w ho hL hd hI
  have _ := hk
  have f1 : a.tmps[1]? = some (.int .i64 k) := hI.from ht1 rfl
  have h : R_stand[9]? = some R_stand[9] := rfl
  conv at h => rhs; arg 1; whnf
  simp only [wpOp, h]
  rw [if_pos (by rfl)]
  left
  go_simp
  exact ⟨x, hI.put (stand_nodup p g of n c k st now _) 9 ho hd _ _ _ rfl (.inr rfl) (by intro e he; cases he; exact hz ▸ (by decide : (15 : Nat) < 25)) hI.wd⟩
theorem stand_10 (hk : k < n) (t0 : Array Value) (hz : t0.size = 25) (ht2 : t0[2]? = some (.int .i64 st)) (Q : Exit → Act → World → Prop) : RStepX Tryz.prog R_stand (lay_stand p g of n c k st now) t0 (fun x L => X x (L 17) (L 20)) Q 10 := by
  intro x L o a w ho hL hd hI
  have _ := hk
  have f2 : a.tmps[2]? = some (.int .i64 st) := hI.from ht2 rfl
  have h : R_stand[10]? = some R_stand[10] := rfl
  conv at h => rhs; arg 1; whnf
  simp only [wpOp, h]
  rw [if_pos (by rfl)]
  left
  go_simp
  exact ⟨x, hI.put (stand_nodup p g of n c k st now _) 10 ho hd _ _ _ rfl (.inr rfl) (by intro e he; cases he; exact hz ▸ (by decide : (16 : Nat) < 25)) hI.wd⟩
theorem stand_11 (hk : k < n) (t0 : Array Value) (hz : t0.size = 25) (ht0 : t0[0]? = some (.pointer (some ⟨p, 0, none⟩))) (Q : Exit → Act → World → Prop) : RStepX Tryz.prog R_stand (lay_stand p g of n c k st now) t0 (fun x L => X x (L 17) (L 20)) Q 11 := by
  intro x L o a w ho hL hd hI
  have _ := hk
  have f0 : a.tmps[0]? = some (.pointer (some ⟨p, 0, none⟩)) := hI.from ht0 rfl
  have h : R_stand[11]? = some R_stand[11] := rfl
  conv at h => rhs; arg 1; whnf
  simp only [wpOp, h]
  rw [if_pos (by rfl)]
  left
  go_simp
  exact ⟨x, hI.put (stand_nodup p g of n c k st now _) 11 ho hd _ _ _ rfl (.inr rfl) (by intro e he; cases he; exact hz ▸ (by decide : (17 : Nat) < 25)) hI.wd⟩
theorem stand_12 (hk : k < n) (t0 : Array Value) (hz : t0.size = 25) (Q : Exit → Act → World → Prop) : RStepX Tryz.prog R_stand (lay_stand p g of n c k st now) t0 (fun x L => X x (L 17) (L 20)) Q 12 := by
  intro x L o a w ho hL hd hI
  have _ := hk
  have d11 : L 11 = true := dep_spec ho hd (k := 11) (by kernel_rfl)
  have f17 : a.tmps[17]? = some (.pointer (some ⟨p, 0, none⟩)) := hI.at 11 rfl d11
  have h : R_stand[12]? = some R_stand[12] := rfl
  conv at h => rhs; arg 1; whnf
  simp only [wpOp, h]
  rw [if_pos (by rfl)]
  left
  go_simp
  exact ⟨x, hI.put (stand_nodup p g of n c k st now _) 12 ho hd _ _ _ rfl (.inr rfl) (by intro e he; cases he; exact hz ▸ (by decide : (18 : Nat) < 25)) hI.wd⟩
theorem stand_13 (hk : k < n) (t0 : Array Value) (hz : t0.size = 25) (Q : Exit → Act → World → Prop) : RStepX Tryz.prog R_stand (lay_stand p g of n c k st now) t0 (fun x L => X x (L 17) (L 20)) Q 13 := by
  intro x L o a w ho hL hd hI
  have _ := hk
  have d12 : L 12 = true := dep_spec ho hd (k := 12) (by kernel_rfl)
  have f18 : a.tmps[18]? = some (.pointer (some ⟨p, 0, none⟩)) := hI.at 12 rfl d12
  have h : R_stand[13]? = some R_stand[13] := rfl
  conv at h => rhs; arg 1; whnf
  simp only [wpOp, h]
  rw [if_pos (by rfl)]
  left
  go_simp
  exact ⟨x, hI.put (stand_nodup p g of n c k st now _) 13 ho hd _ _ _ rfl (.inr rfl) (by intro e he; cases he; exact hz ▸ (by decide : (19 : Nat) < 25)) hI.wd⟩
theorem stand_14 (hk : k < n) (M14 : ∀ (x : (Unit)) (w : World), X x false false w → w.cell? ⟨p, 20, none⟩ = some (.int .i64 now)) (t0 : Array Value) (hz : t0.size = 25) (Q : Exit → Act → World → Prop) : RStepX Tryz.prog R_stand (lay_stand p g of n c k st now) t0 (fun x L => X x (L 17) (L 20)) Q 14 := by
  intro x L o a w ho hL hd hI
  have _ := hk
  have d13 : L 13 = true := dep_spec ho hd (k := 13) (by kernel_rfl)
  have f19 : a.tmps[19]? = some (.pointer (some ⟨p, 20, none⟩)) := hI.at 13 rfl d13
  have z17 : L 17 = false := by
    cases q17 : L 17 with
    | false => rfl
    | true =>
      have q14 : L 14 = true := hI.tr q17 (by kernel_rfl)
      rw [hL] at q14; cases q14
  have z20 : L 20 = false := by
    cases q20 : L 20 with
    | false => rfl
    | true =>
      have q14 : L 14 = true := hI.tr q20 (by kernel_rfl)
      rw [hL] at q14; cases q14
  have hw : X x (L 17) (L 20) w := hI.wd
  rw [z17, z20] at hw
  have hv := M14 x  w hw
  have h : R_stand[14]? = some R_stand[14] := rfl
  conv at h => rhs; arg 1; whnf
  simp only [wpOp, h]
  rw [if_pos (by rfl)]
  left
  go_simp
  exact ⟨x, hI.put (stand_nodup p g of n c k st now _) 14 ho hd _ _ _ rfl (.inr rfl) (by intro e he; cases he; exact hz ▸ (by decide : (20 : Nat) < 25)) hI.wd⟩
theorem stand_15 (hk : k < n) (t0 : Array Value) (hz : t0.size = 25) (Q : Exit → Act → World → Prop) : RStepX Tryz.prog R_stand (lay_stand p g of n c k st now) t0 (fun x L => X x (L 17) (L 20)) Q 15 := by
  intro x L o a w ho hL hd hI
  have _ := hk
  have d3 : L 3 = true := dep_spec ho hd (k := 3) (by kernel_rfl)
  have f9 : a.tmps[9]? = some (.slice (some ⟨g, of, none⟩) (n) (c)) := hI.at 3 rfl d3
  have d4 : L 4 = true := dep_spec ho hd (k := 4) (by kernel_rfl)
  have f10 : a.tmps[10]? = some (.int .i64 k) := hI.at 4 rfl d4
  have h : R_stand[15]? = some R_stand[15] := rfl
  conv at h => rhs; arg 1; whnf
  simp only [wpOp, h]
  rw [if_pos (by rfl)]
  left
  go_simp
  exact ⟨x, hI.put (stand_nodup p g of n c k st now _) 15 ho hd _ _ _ rfl (.inr rfl) (by intro e he; cases he; exact hz ▸ (by decide : (21 : Nat) < 25)) hI.wd⟩
theorem stand_16 (hk : k < n) (t0 : Array Value) (hz : t0.size = 25) (Q : Exit → Act → World → Prop) : RStepX Tryz.prog R_stand (lay_stand p g of n c k st now) t0 (fun x L => X x (L 17) (L 20)) Q 16 := by
  intro x L o a w ho hL hd hI
  have _ := hk
  have d15 : L 15 = true := dep_spec ho hd (k := 15) (by kernel_rfl)
  have f21 : a.tmps[21]? = some (.pointer (some ⟨g, of + k * 4, none⟩)) := hI.at 15 rfl d15
  have h : R_stand[16]? = some R_stand[16] := rfl
  conv at h => rhs; arg 1; whnf
  simp only [wpOp, h]
  rw [if_pos (by rfl)]
  left
  go_simp
  exact ⟨x, hI.put (stand_nodup p g of n c k st now _) 16 ho hd _ _ _ rfl (.inr rfl) (by intro e he; cases he; exact hz ▸ (by decide : (22 : Nat) < 25)) hI.wd⟩
theorem stand_17 (hk : k < n) (S17 : ∀ (x : (Unit)) (w : World), X x false false w → ∃ u0, w.cell? ⟨g, of + k * 4 + 2, none⟩ = some u0 ∧ w.frozen? ⟨g, of + k * 4 + 2, none⟩ = false ∧ X x true false (w.setCell ⟨g, of + k * 4 + 2, none⟩ (.int .i64 st))) (t0 : Array Value) (hz : t0.size = 25) (Q : Exit → Act → World → Prop) : RStepX Tryz.prog R_stand (lay_stand p g of n c k st now) t0 (fun x L => X x (L 17) (L 20)) Q 17 := by
  intro x L o a w ho hL hd hI
  have _ := hk
  have _ := hz
  have d16 : L 16 = true := dep_spec ho hd (k := 16) (by kernel_rfl)
  have f22 : a.tmps[22]? = some (.pointer (some ⟨g, of + k * 4 + 2, none⟩)) := hI.at 16 rfl d16
  have d10 : L 10 = true := dep_spec ho hd (k := 10) (by kernel_rfl)
  have f16 : a.tmps[16]? = some (.int .i64 st) := hI.at 10 rfl d10
  have z17 : L 17 = false := hL
  have z20 : L 20 = false := by
    cases q20 : L 20 with
    | false => rfl
    | true =>
      have q17 : L 17 = true := hI.tr q20 (by kernel_rfl)
      rw [hL] at q17; cases q17
  have hw : X x (L 17) (L 20) w := hI.wd
  rw [z17, z20] at hw
  obtain ⟨u0, c0, g0, hx⟩ := S17 x  w hw
  have h : R_stand[17]? = some R_stand[17] := rfl
  conv at h => rhs; arg 1; whnf
  simp only [wpOp, h]
  rw [if_pos (by rfl)]
  left
  go_simp
  have hx2 : X x true (L 20) (w.setCell ⟨g, of + k * 4 + 2, none⟩ (.int .i64 st)) := by
    rw [z20]
    exact hx
  exact ⟨x, ((hI.rewd (Wd' := fun _ _ => True) (w' := w) trivial).put (w' := w) (stand_nodup p g of n c k st now _) 17 ho hd none undef undef rfl (.inl rfl) (by intro e he; cases he) trivial).rewd hx2⟩
theorem stand_18 (hk : k < n) (t0 : Array Value) (hz : t0.size = 25) (Q : Exit → Act → World → Prop) : RStepX Tryz.prog R_stand (lay_stand p g of n c k st now) t0 (fun x L => X x (L 17) (L 20)) Q 18 := by
  intro x L o a w ho hL hd hI
  have _ := hk
  have d8 : L 8 = true := dep_spec ho hd (k := 8) (by kernel_rfl)
  have f14 : a.tmps[14]? = some (.slice (some ⟨g, of, none⟩) (n) (c)) := hI.at 8 rfl d8
  have d9 : L 9 = true := dep_spec ho hd (k := 9) (by kernel_rfl)
  have f15 : a.tmps[15]? = some (.int .i64 k) := hI.at 9 rfl d9
  have h : R_stand[18]? = some R_stand[18] := rfl
  conv at h => rhs; arg 1; whnf
  simp only [wpOp, h]
  rw [if_pos (by rfl)]
  left
  go_simp
  exact ⟨x, hI.put (stand_nodup p g of n c k st now _) 18 ho hd _ _ _ rfl (.inr rfl) (by intro e he; cases he; exact hz ▸ (by decide : (23 : Nat) < 25)) hI.wd⟩
theorem stand_19 (hk : k < n) (t0 : Array Value) (hz : t0.size = 25) (Q : Exit → Act → World → Prop) : RStepX Tryz.prog R_stand (lay_stand p g of n c k st now) t0 (fun x L => X x (L 17) (L 20)) Q 19 := by
  intro x L o a w ho hL hd hI
  have _ := hk
  have d18 : L 18 = true := dep_spec ho hd (k := 18) (by kernel_rfl)
  have f23 : a.tmps[23]? = some (.pointer (some ⟨g, of + k * 4, none⟩)) := hI.at 18 rfl d18
  have h : R_stand[19]? = some R_stand[19] := rfl
  conv at h => rhs; arg 1; whnf
  simp only [wpOp, h]
  rw [if_pos (by rfl)]
  left
  go_simp
  exact ⟨x, hI.put (stand_nodup p g of n c k st now _) 19 ho hd _ _ _ rfl (.inr rfl) (by intro e he; cases he; exact hz ▸ (by decide : (24 : Nat) < 25)) hI.wd⟩
theorem stand_20 (hk : k < n) (S20 : ∀ (x : (Unit)) (w : World), X x true false w → ∃ u0, w.cell? ⟨g, of + k * 4 + 1, none⟩ = some u0 ∧ w.frozen? ⟨g, of + k * 4 + 1, none⟩ = false ∧ X x true true (w.setCell ⟨g, of + k * 4 + 1, none⟩ (.int .i64 now))) (t0 : Array Value) (hz : t0.size = 25) (Q : Exit → Act → World → Prop) : RStepX Tryz.prog R_stand (lay_stand p g of n c k st now) t0 (fun x L => X x (L 17) (L 20)) Q 20 := by
  intro x L o a w ho hL hd hI
  have _ := hk
  have _ := hz
  have d19 : L 19 = true := dep_spec ho hd (k := 19) (by kernel_rfl)
  have f24 : a.tmps[24]? = some (.pointer (some ⟨g, of + k * 4 + 1, none⟩)) := hI.at 19 rfl d19
  have d14 : L 14 = true := dep_spec ho hd (k := 14) (by kernel_rfl)
  have f20 : a.tmps[20]? = some (.int .i64 now) := hI.at 14 rfl d14
  have y17 : L 17 = true := dep_spec ho hd (k := 17) (by kernel_rfl)
  have z17 : L 17 = true := y17
  have z20 : L 20 = false := hL
  have hw : X x (L 17) (L 20) w := hI.wd
  rw [z17, z20] at hw
  obtain ⟨u0, c0, g0, hx⟩ := S20 x  w hw
  have h : R_stand[20]? = some R_stand[20] := rfl
  conv at h => rhs; arg 1; whnf
  simp only [wpOp, h]
  rw [if_pos (by rfl)]
  left
  go_simp
  have hx2 : X x (L 17) true (w.setCell ⟨g, of + k * 4 + 1, none⟩ (.int .i64 now)) := by
    rw [z17]
    exact hx
  exact ⟨x, ((hI.rewd (Wd' := fun _ _ => True) (w' := w) trivial).put (w' := w) (stand_nodup p g of n c k st now _) 20 ho hd none undef undef rfl (.inl rfl) (by intro e he; cases he) trivial).rewd hx2⟩
theorem stand_step (hk : k < n) (M3 : ∀ (x : (Unit)) (w : World), X x false false w → w.cell? ⟨p, 22, none⟩ = some (.slice (some ⟨g, of, none⟩) (n) (c))) (M14 : ∀ (x : (Unit)) (w : World), X x false false w → w.cell? ⟨p, 20, none⟩ = some (.int .i64 now)) (S17 : ∀ (x : (Unit)) (w : World), X x false false w → ∃ u0, w.cell? ⟨g, of + k * 4 + 2, none⟩ = some u0 ∧ w.frozen? ⟨g, of + k * 4 + 2, none⟩ = false ∧ X x true false (w.setCell ⟨g, of + k * 4 + 2, none⟩ (.int .i64 st))) (S20 : ∀ (x : (Unit)) (w : World), X x true false w → ∃ u0, w.cell? ⟨g, of + k * 4 + 1, none⟩ = some u0 ∧ w.frozen? ⟨g, of + k * 4 + 1, none⟩ = false ∧ X x true true (w.setCell ⟨g, of + k * 4 + 1, none⟩ (.int .i64 now))) (t0 : Array Value) (hz : t0.size = 25) (ht0 : t0[0]? = some (.pointer (some ⟨p, 0, none⟩))) (ht1 : t0[1]? = some (.int .i64 k)) (ht2 : t0[2]? = some (.int .i64 st)) (Q : Exit → Act → World → Prop) : ∀ i, i < 21 → RStepX Tryz.prog R_stand (lay_stand p g of n c k st now) t0 (fun x L => X x (L 17) (L 20)) Q i
  | 0, _ => stand_0 p g of n c k st now X hk  t0 hz ht0 Q
  | 1, _ => stand_1 p g of n c k st now X hk  t0 hz  Q
  | 2, _ => stand_2 p g of n c k st now X hk  t0 hz  Q
  | 3, _ => stand_3 p g of n c k st now X hk M3 t0 hz  Q
  | 4, _ => stand_4 p g of n c k st now X hk  t0 hz ht1 Q
  | 5, _ => stand_5 p g of n c k st now X hk  t0 hz ht0 Q
  | 6, _ => stand_6 p g of n c k st now X hk  t0 hz  Q
  | 7, _ => stand_7 p g of n c k st now X hk  t0 hz  Q
  | 8, _ => stand_8 p g of n c k st now X hk M3 t0 hz  Q
  | 9, _ => stand_9 p g of n c k st now X hk  t0 hz ht1 Q
  | 10, _ => stand_10 p g of n c k st now X hk  t0 hz ht2 Q
  | 11, _ => stand_11 p g of n c k st now X hk  t0 hz ht0 Q
  | 12, _ => stand_12 p g of n c k st now X hk  t0 hz  Q
  | 13, _ => stand_13 p g of n c k st now X hk  t0 hz  Q
  | 14, _ => stand_14 p g of n c k st now X hk M14 t0 hz  Q
  | 15, _ => stand_15 p g of n c k st now X hk  t0 hz  Q
  | 16, _ => stand_16 p g of n c k st now X hk  t0 hz  Q
  | 17, _ => stand_17 p g of n c k st now X hk S17 t0 hz  Q
  | 18, _ => stand_18 p g of n c k st now X hk  t0 hz  Q
  | 19, _ => stand_19 p g of n c k st now X hk  t0 hz  Q
  | 20, _ => stand_20 p g of n c k st now X hk S20 t0 hz  Q
  | k + 21, h => absurd h (by omega)
end
theorem stand_at {ops : Array Oper} (ho : ops = R_stand) (p : Nat) (g : Nat) (of : Nat) (n : Nat) (c : Nat) (k : Nat) (st : Int) (now : Int) (X : (Unit) → Bool → Bool → World → Prop) (hk : k < n) (M3 : ∀ (x : (Unit)) (w : World), X x false false w → w.cell? ⟨p, 22, none⟩ = some (.slice (some ⟨g, of, none⟩) (n) (c))) (M14 : ∀ (x : (Unit)) (w : World), X x false false w → w.cell? ⟨p, 20, none⟩ = some (.int .i64 now)) (S17 : ∀ (x : (Unit)) (w : World), X x false false w → ∃ u0, w.cell? ⟨g, of + k * 4 + 2, none⟩ = some u0 ∧ w.frozen? ⟨g, of + k * 4 + 2, none⟩ = false ∧ X x true false (w.setCell ⟨g, of + k * 4 + 2, none⟩ (.int .i64 st))) (S20 : ∀ (x : (Unit)) (w : World), X x true false w → ∃ u0, w.cell? ⟨g, of + k * 4 + 1, none⟩ = some u0 ∧ w.frozen? ⟨g, of + k * 4 + 1, none⟩ = false ∧ X x true true (w.setCell ⟨g, of + k * 4 + 1, none⟩ (.int .i64 now))) (t0 : Array Value) (hz : t0.size = 25) (ht0 : t0[0]? = some (.pointer (some ⟨p, 0, none⟩))) (ht1 : t0[1]? = some (.int .i64 k)) (ht2 : t0[2]? = some (.int .i64 st)) {id : Nat} {Q : Exit → Act → World → Prop} {w : World} (x0 : (Unit)) (start : X x0 false false w.drew) (fin : ∀ x w', X x true true w' → Q .normal ⟨puts ((lay_stand p g of n c k st now) x) t0, []⟩ w') : (Code.region id ops true).wp Tryz.prog Q ⟨t0, []⟩ w := by
  subst ho
  refine wp_regX (Wd := (fun x L => X x (L 17) (L 20))) 21 rfl stand_acyc stand_size (fun _ => rfl) (stand_nodup p g of n c k st now) (fun x => by rw [stand_dsts, hz]; rfl) x0 start (fun i hi => stand_step p g of n c k st now X hk M3 M14 S17 S20 t0 hz ht0 ht1 ht2 Q i hi) fun x L w' hl hw => fin x w' ?_
  have hw : X x (L 17) (L 20) w' := hw
  rw [hl 17 (by omega), hl 20 (by omega)] at hw
  exact hw
end Go.Proofs.YtdgphoemjeakaaaGreatDoor.Y

/-! The whole service: stand. -/
namespace Go.Proofs.YtdgphoemjeakaaaGreatDoor.Y
open Go.Proofs.YtdgphoemjeakaaaGreatDoor.Me
open Go.Proofs.YtdgphoemjeakaaaGreatDoor.Rg
open Go.RowKit Go.Proofs.YtdgphoemjeakaaaGreatDoor Go.Proofs.YtdgphoemjeakaaaGreatDoor.K Go.Proofs.YtdgphoemjeakaaaGreatDoor.P Go.Proofs.YtdgphoemjeakaaaGreatDoor.U Go.Proofs.YtdgphoemjeakaaaGreatDoor.R
set_option maxRecDepth 100000

/-- A request's cell is another one. -/
theorem St.reqSet {a : At} {S : Nat → Prop} {w0 : World} {cs : Array Value} {tv : Value} {tn : Nat} {tx : List Value} {s : V.Sys} {w : World} {g o n c : Nat} (h : St a S w0 cs (.slice (some ⟨g, o, none⟩) n c) tv tn tx s w) (hn : n = s.rs.length) {k j : Nat} {q q' : V.Req} {u : Value} (hq : s.rs[k]? = some q) (hj : j < 4) (he : (rcells q).set j u = rcells q') :
    (∃ u0, w.cell? ⟨g, o + k * 4 + j, none⟩ = some u0) ∧ w.frozen? ⟨g, o + k * 4 + j, none⟩ = false ∧ St a S w0 cs (.slice (some ⟨g, o, none⟩) n c) tv tn tx { s with rs := s.rs.set k q' } (w.setCell ⟨g, o + k * 4 + j, none⟩ u) := by
  subst hn
  obtain ⟨C, ⟨hb, ho⟩, back⟩ := h.req
  have hk : k < s.rs.length := (List.getElem?_eq_some_iff.1 hq).1
  obtain ⟨hC, hg, _⟩ := ho.blk
  have hcell := ho.cellAt (k * 4 + j) (by omega)
  rw [reqs_at _ _ _ _ hq hj, ← Nat.add_assoc] at hcell
  have hs : (w.setCell ⟨g, o + k * 4 + j, none⟩ u).heap.size = w.heap.size := by simp [World.setCell]
  refine ⟨⟨_, hcell.trans (List.getElem?_eq_getElem (by simpa [rcells] using hj))⟩, ho.freeAt _, back _ _ _ ⟨fun k hk => hk.2, ?_⟩ ?_⟩
  · have h1 := ho.put (k * 4 + j) (by omega) u
    rw [reqs_set _ _ _ _ _ _ hq hj he, ← Nat.add_assoc] at h1
    rw [List.length_set]
    exact h1.mono fun i _ hi => ⟨.inl hi, by rw [hs]; exact hb i hi⟩
  · exact (Chg.refl C w).set (fun _ => hC) u

theorem St.reqSetV {a : At} {S : Nat → Prop} {w0 : World} {cs : Array Value} {rv tv : Value} {tn : Nat} {tx : List Value} {s : V.Sys} {w : World} {g o n c : Nat} (h : St a S w0 cs rv tv tn tx s w) (hv : rv = .slice (some ⟨g, o, none⟩) n c) (hn : n = s.rs.length) {k j : Nat} {q q' : V.Req} {u : Value} (hq : s.rs[k]? = some q) (hj : j < 4) (he : (rcells q).set j u = rcells q') :
    (∃ u0, w.cell? ⟨g, o + k * 4 + j, none⟩ = some u0) ∧ w.frozen? ⟨g, o + k * 4 + j, none⟩ = false ∧ St a S w0 cs rv tv tn tx { s with rs := s.rs.set k q' } (w.setCell ⟨g, o + k * 4 + j, none⟩ u) := by
  subst hv
  exact h.reqSet hn hq hj he
/-- Where the requests lie. -/
theorem St.rform {a : At} {S : Nat → Prop} {w0 : World} {cs : Array Value} {rv tv : Value} {tn : Nat} {tx : List Value} {s : V.Sys} {w : World} (h : St a S w0 cs rv tv tn tx s w) (hn : 0 < s.rs.length) : ∃ g o c, rv = .slice (some ⟨g, o, none⟩) s.rs.length c := by
  obtain ⟨C, h1⟩ := h.rq
  obtain ⟨va, cap, e⟩ := h1.sl
  rw [e] at h1
  obtain ⟨g, o, rfl, _⟩ := h1.some_ hn
  exact ⟨g, o, cap, e⟩
set_option maxHeartbeats 2000000 in
theorem stand_any {a : At} {S : Nat → Prop} {w0 : World} {cs : Array Value} {rv tv : Value} {tn : Nat} {tx : List Value} {s : V.Sys} {w : World} (h : St a S w0 cs rv tv tn tx s w) (h22 : cs[22]? = some rv) (h20 : cs[20]? = some (.int .i64 s.now)) (k : Nat) (hk : k < s.rs.length) (hn : s.rs.length ≤ 1099511627776) (st : Int) :
    Calls Tryz.prog 53 #[.pointer (some ⟨a.p, 0, none⟩), .int .i64 k, .int .i64 st] w fun e w' => e = .returned (.tuple #[]) ∧ St a S w0 cs rv tv tn tx { s with rs := V.stand s.now st s.rs k } w' := by
  obtain ⟨q, hq⟩ : ∃ q, s.rs[k]? = some q := ⟨s.rs[k], List.getElem?_eq_getElem hk⟩
  obtain ⟨va, cap, rfl⟩ := h.rq.choose_spec.sl
  obtain ⟨g, o, rfl, _, _, _, _⟩ := h.rq.choose_spec.some_ (by omega)
  have hm : V.stand s.now st s.rs k = s.rs.set k { q with st := st, since := s.now } := by
    unfold V.stand
    rw [Int.toNat_natCast]
    exact modify_at _ _ _ _ hq
  rw [hm]
  obtain ⟨n, hnl⟩ : ∃ n, s.rs.length = n := ⟨_, rfl⟩
  rw [hnl] at h h22 hk
  have H := Lib.hid h
  have H22 := Lib.hid h22
  have H20 := Lib.hid h20
  have HQ := Lib.hid hq
  clear h h22 h20 hq hm
  go_enter Tryz.func53, Tryz.ntmps53
  go_wp2_with fail
  refine stand_at (by kernel_rfl) a.p g o n cap k st s.now (fun _ b0 b1 w' => St a S w0 cs (.slice (some ⟨g, o, none⟩) n cap) tv tn tx (cond b1 { s with rs := s.rs.set k { q with st := st, since := s.now } } (cond b0 { s with rs := s.rs.set k { q with st := st } } s)) w') hk
    (fun _ w' x => by rw [x.blk.cell]; exact H22.out) (fun _ w' x => by rw [x.blk.cell]; exact H20.out) (fun _ w' x => ?_) (fun _ w' x => ?_) _ rfl rfl rfl rfl () (H.out.no (Chg.refl No _).drew) fun _ w1 h1 => ?_
  · obtain ⟨⟨u0, h1⟩, h2, h3⟩ := St.reqSet (s := s) x hnl.symm (k := k) (j := 2) (u := .int .i64 st) (q' := { q with st := st }) HQ.out (by decide) rfl
    exact ⟨u0, h1, h2, h3⟩
  · have x' : St a S w0 cs (.slice (some ⟨g, o, none⟩) n cap) tv tn tx { s with rs := s.rs.set k { q with st := st } } w' := x
    obtain ⟨⟨u0, h1⟩, h2, h3⟩ := x'.reqSet (by show n = (s.rs.set k _).length; rw [List.length_set]; exact hnl.symm) (k := k) (j := 1) (u := .int .i64 s.now) (q := { q with st := st }) (q' := { q with st := st, since := s.now }) (by show (s.rs.set k _)[k]? = _; rw [List.getElem?_set_self (by omega)]) (by decide) rfl
    refine ⟨u0, h1, h2, ?_⟩
    have e : (s.rs.set k { q with st := st }).set k { q with st := st, since := s.now } = s.rs.set k { q with st := st, since := s.now } := List.set_set _
    have h4 : St a S w0 cs (.slice (some ⟨g, o, none⟩) n cap) tv tn tx { s with rs := (s.rs.set k { q with st := st }).set k { q with st := st, since := s.now } } (w'.setCell ⟨g, o + k * 4 + 1, none⟩ (.int .i64 s.now)) := h3
    rw [e] at h4
    exact h4
  · simp only [lay_stand, puts, List.setIfInBounds_toArray, List.set_cons_succ, List.set_cons_zero]
    have H1 := Lib.hid h1
    clear h1
    go_wp2_with fail
    go_end0
    subst hnl
    exact ⟨rfl, H1.out⟩
end Go.Proofs.YtdgphoemjeakaaaGreatDoor.Y
