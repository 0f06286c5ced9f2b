/- The whole service: regions that draw their order. -/
import Derived.Test.YtdgphoemjeakaaaGreatDoorQ11
import Derived.Test.YtdgphoemjeakaaaGreatDoorQ09
/-! The whole service: regions that draw their order. -/
namespace Go.Proofs.YtdgphoemjeakaaaGreatDoor.Y
open Go.RowKit Go.Proofs.YtdgphoemjeakaaaGreatDoor.K Go.Proofs.YtdgphoemjeakaaaGreatDoor.P Go.Proofs.YtdgphoemjeakaaaGreatDoor.W Go.Proofs.YtdgphoemjeakaaaGreatDoor.Rg
set_option maxRecDepth 100000

noncomputable def R_tik1 : Array Oper := reg Tryz.f31 1
theorem tik1_size : R_tik1.size = 14 := by kernel_rfl
theorem tik1_acyc : acycB R_tik1 = true := by kernel_rfl
/-- What the operations lay. -/
noncomputable def lay_tik1 (p : Nat) (q : Nat) (now : Int) (m : Nat) (x : (Option Addr × Nat)) : Lay := [(some 13, .pointer (some ⟨p, 0, none⟩)),
  (some 14, .pointer (some ⟨q, 0, none⟩)),
  (some 15, .pointer (some ⟨p, 0, none⟩)),
  (some 16, .pointer (some ⟨p, 0, none⟩)),
  (some 17, .pointer (some ⟨p, 20, none⟩)),
  (some 18, .int .i64 now),
  (some 19, .pointer (some ⟨p, 0, none⟩)),
  (some 20, .pointer (some ⟨p, 0, none⟩)),
  (some 21, .pointer (some ⟨p, 0, none⟩)),
  (some 22, .pointer (some ⟨p, 16, none⟩)),
  (some 23, .int .i64 60),
  (some 24, .slice (x.1) (m) (x.2)),
  (some 25, .int .i64 (m)),
  (some 26, .int .i64 0)]
theorem tik1_dsts (p : Nat) (q : Nat) (now : Int) (m : Nat) (x : (Option Addr × Nat)) : dsts (lay_tik1 p q now m x) = [13, 14, 15, 16, 17, 18, 19, 20, 21, 22, 23, 24, 25, 26] := rfl
theorem tik1_nodup (p : Nat) (q : Nat) (now : Int) (m : Nat) (x : (Option Addr × Nat)) : (dsts (lay_tik1 p q now m x)).Nodup := by rw [tik1_dsts]; decide
theorem tik1_swap11 (p : Nat) (q : Nat) (now : Int) (m : Nat) (x : (Option Addr × Nat)) (y : (Option Addr × Nat)) (j : Nat) (e11 : ¬ j = 11) (e12 : ¬ j = 12) : ((lay_tik1 p q now m) y)[j]? = ((lay_tik1 p q now m) x)[j]? := by
  have h : (lay_tik1 p q now m) y = ((((lay_tik1 p q now m) x).set 11 (some 24, .slice (y.1) (m) (y.2))).set 12 (some 25, .int .i64 (m))) := rfl
  rw [h, List.getElem?_set_ne (fun h => e12 h.symm), List.getElem?_set_ne (fun h => e11 h.symm)]
section
variable (p : Nat) (q : Nat) (now : Int) (m : Nat) (X : ((Option Addr × Nat)) → Bool → World → Prop)
theorem tik1_0 (t0 : Array Value) (hz : t0.size = 201) (ht0 : t0[0]? = some (.pointer (some ⟨p, 0, none⟩))) (Q : Exit → Act → World → Prop) : RStepX Tryz.prog R_tik1 (lay_tik1 p q now m) t0 (fun x L => X x (L 11)) Q 0 := by
  intro x L o a w ho hL hd hI
  have f0 : a.tmps[0]? = some (.pointer (some ⟨p, 0, none⟩)) := hI.from ht0 rfl
  have h : R_tik1[0]? = some R_tik1[0] := rfl
  conv at h => rhs; arg 1; whnf
  simp only [wpOp, h]
  rw [if_pos (by rfl)]
  left
  go_simp
  exact ⟨x, hI.put (tik1_nodup p q now m _) 0 ho hd _ _ _ rfl (.inr (rfl)) (by intro e he; cases he; exact hz ▸ (by decide : (13 : Nat) < 201)) hI.wd⟩
theorem tik1_1 (C1 : ∀ (x : ((Option Addr × Nat))) (w : World), X x false w → Calls Tryz.prog 33 #[.pointer (some ⟨p, 0, none⟩)] w fun e w' => e = .returned (.pointer (some ⟨q, 0, none⟩)) ∧ X x false w') (t0 : Array Value) (hz : t0.size = 201) (Q : Exit → Act → World → Prop) : RStepX Tryz.prog R_tik1 (lay_tik1 p q now m) t0 (fun x L => X x (L 11)) Q 1 := by
  intro x L o a w ho hL hd hI
  have d0 : L 0 = true := dep_spec ho hd (k := 0) (by kernel_rfl)
  have f13 : a.tmps[13]? = some (.pointer (some ⟨p, 0, none⟩)) := hI.at 0 rfl d0
  have z11 : L 11 = false := by
    cases q11 : L 11 with
    | false => rfl
    | true =>
      have q1 : L 1 = true := hI.tr q11 (by kernel_rfl)
      rw [hL] at q1; cases q1
  have hw : X x (L 11) w := hI.wd
  rw [z11] at hw
  have h : R_tik1[1]? = some R_tik1[1] := rfl
  conv at h => rhs; arg 1; whnf
  simp only [wpOp, h]
  rw [if_pos (by rfl)]
  left
  go_simp
  refine (C1 x  w hw).mono ?_
  rintro e w' ⟨rfl, hx⟩
  have hx2 : X x (L 11) w' := by
    rw [z11]
    exact hx
  exact ⟨x, ((hI.rewd (Wd' := fun _ _ => True) (w' := w) trivial).put (w' := w) (tik1_nodup p q now m _) 1 ho hd _ _ _ rfl (.inr (rfl)) (by intro e he; cases he; exact hz ▸ (by decide : (14 : Nat) < 201)) trivial).rewd hx2⟩
theorem tik1_2 (t0 : Array Value) (hz : t0.size = 201) (ht0 : t0[0]? = some (.pointer (some ⟨p, 0, none⟩))) (Q : Exit → Act → World → Prop) : RStepX Tryz.prog R_tik1 (lay_tik1 p q now m) t0 (fun x L => X x (L 11)) Q 2 := by
  intro x L o a w ho hL hd hI
  have f0 : a.tmps[0]? = some (.pointer (some ⟨p, 0, none⟩)) := hI.from ht0 rfl
  have h : R_tik1[2]? = some R_tik1[2] := rfl
  conv at h => rhs; arg 1; whnf
  simp only [wpOp, h]
  rw [if_pos (by rfl)]
  left
  go_simp
  exact ⟨x, hI.put (tik1_nodup p q now m _) 2 ho hd _ _ _ rfl (.inr (rfl)) (by intro e he; cases he; exact hz ▸ (by decide : (15 : Nat) < 201)) hI.wd⟩
theorem tik1_3 (t0 : Array Value) (hz : t0.size = 201) (Q : Exit → Act → World → Prop) : RStepX Tryz.prog R_tik1 (lay_tik1 p q now m) t0 (fun x L => X x (L 11)) Q 3 := by
  intro x L o a w ho hL hd hI
  have d2 : L 2 = true := dep_spec ho hd (k := 2) (by kernel_rfl)
  have f15 : a.tmps[15]? = some (.pointer (some ⟨p, 0, none⟩)) := hI.at 2 rfl d2
  have h : R_tik1[3]? = some R_tik1[3] := rfl
  conv at h => rhs; arg 1; whnf
  simp only [wpOp, h]
  rw [if_pos (by rfl)]
  left
  go_simp
  exact ⟨x, hI.put (tik1_nodup p q now m _) 3 ho hd _ _ _ rfl (.inr (rfl)) (by intro e he; cases he; exact hz ▸ (by decide : (16 : Nat) < 201)) hI.wd⟩
theorem tik1_4 (t0 : Array Value) (hz : t0.size = 201) (Q : Exit → Act → World → Prop) : RStepX Tryz.prog R_tik1 (lay_tik1 p q now m) t0 (fun x L => X x (L 11)) Q 4 := by
  intro x L o a w ho hL hd hI
  have d3 : L 3 = true := dep_spec ho hd (k := 3) (by kernel_rfl)
  have f16 : a.tmps[16]? = some (.pointer (some ⟨p, 0, none⟩)) := hI.at 3 rfl d3
  have h : R_tik1[4]? = some R_tik1[4] := rfl
  conv at h => rhs; arg 1; whnf
  simp only [wpOp, h]
  rw [if_pos (by rfl)]
  left
  go_simp
  exact ⟨x, hI.put (tik1_nodup p q now m _) 4 ho hd _ _ _ rfl (.inr (rfl)) (by intro e he; cases he; exact hz ▸ (by decide : (17 : Nat) < 201)) hI.wd⟩
theorem tik1_5 (M5 : ∀ (x : ((Option Addr × Nat))) (w : World), X x false w → w.cell? ⟨p, 20, none⟩ = some (.int .i64 now)) (t0 : Array Value) (hz : t0.size = 201) (Q : Exit → Act → World → Prop) : RStepX Tryz.prog R_tik1 (lay_tik1 p q now m) t0 (fun x L => X x (L 11)) Q 5 := by
  intro x L o a w ho hL hd hI
  have d4 : L 4 = true := dep_spec ho hd (k := 4) (by kernel_rfl)
  have f17 : a.tmps[17]? = some (.pointer (some ⟨p, 20, none⟩)) := hI.at 4 rfl d4
  have z11 : L 11 = false := by
    cases q11 : L 11 with
    | false => rfl
    | true =>
      have q5 : L 5 = true := hI.tr q11 (by kernel_rfl)
      rw [hL] at q5; cases q5
  have hw : X x (L 11) w := hI.wd
  rw [z11] at hw
  have hv := M5 x  w hw
  have h : R_tik1[5]? = some R_tik1[5] := rfl
  conv at h => rhs; arg 1; whnf
  simp only [wpOp, h]
  rw [if_pos (by rfl)]
  left
  go_simp
  exact ⟨x, hI.put (tik1_nodup p q now m _) 5 ho hd _ _ _ rfl (.inr (rfl)) (by intro e he; cases he; exact hz ▸ (by decide : (18 : Nat) < 201)) hI.wd⟩
theorem tik1_6 (t0 : Array Value) (hz : t0.size = 201) (ht0 : t0[0]? = some (.pointer (some ⟨p, 0, none⟩))) (Q : Exit → Act → World → Prop) : RStepX Tryz.prog R_tik1 (lay_tik1 p q now m) t0 (fun x L => X x (L 11)) Q 6 := by
  intro x L o a w ho hL hd hI
  have f0 : a.tmps[0]? = some (.pointer (some ⟨p, 0, none⟩)) := hI.from ht0 rfl
  have h : R_tik1[6]? = some R_tik1[6] := rfl
  conv at h => rhs; arg 1; whnf
  simp only [wpOp, h]
  rw [if_pos (by rfl)]
  left
  go_simp
  exact ⟨x, hI.put (tik1_nodup p q now m _) 6 ho hd _ _ _ rfl (.inr (rfl)) (by intro e he; cases he; exact hz ▸ (by decide : (19 : Nat) < 201)) hI.wd⟩
theorem tik1_7 (t0 : Array Value) (hz : t0.size = 201) (Q : Exit → Act → World → Prop) : RStepX Tryz.prog R_tik1 (lay_tik1 p q now m) t0 (fun x L => X x (L 11)) Q 7 := by
  intro x L o a w ho hL hd hI
  have d6 : L 6 = true := dep_spec ho hd (k := 6) (by kernel_rfl)
  have f19 : a.tmps[19]? = some (.pointer (some ⟨p, 0, none⟩)) := hI.at 6 rfl d6
  have h : R_tik1[7]? = some R_tik1[7] := rfl
  conv at h => rhs; arg 1; whnf
  simp only [wpOp, h]
  rw [if_pos (by rfl)]
  left
  go_simp
  exact ⟨x, hI.put (tik1_nodup p q now m _) 7 ho hd _ _ _ rfl (.inr (rfl)) (by intro e he; cases he; exact hz ▸ (by decide : (20 : Nat) < 201)) hI.wd⟩
theorem tik1_8 (t0 : Array Value) (hz : t0.size = 201) (Q : Exit → Act → World → Prop) : RStepX Tryz.prog R_tik1 (lay_tik1 p q now m) t0 (fun x L => X x (L 11)) Q 8 := by
  intro x L o a w ho hL hd hI
  have d7 : L 7 = true := dep_spec ho hd (k := 7) (by kernel_rfl)
  have f20 : a.tmps[20]? = some (.pointer (some ⟨p, 0, none⟩)) := hI.at 7 rfl d7
  have h : R_tik1[8]? = some R_tik1[8] := rfl
  conv at h => rhs; arg 1; whnf
  simp only [wpOp, h]
  rw [if_pos (by rfl)]
  left
  go_simp
  exact ⟨x, hI.put (tik1_nodup p q now m _) 8 ho hd _ _ _ rfl (.inr (rfl)) (by intro e he; cases he; exact hz ▸ (by decide : (21 : Nat) < 201)) hI.wd⟩
theorem tik1_9 (t0 : Array Value) (hz : t0.size = 201) (Q : Exit → Act → World → Prop) : RStepX Tryz.prog R_tik1 (lay_tik1 p q now m) t0 (fun x L => X x (L 11)) Q 9 := by
  intro x L o a w ho hL hd hI
  have d8 : L 8 = true := dep_spec ho hd (k := 8) (by kernel_rfl)
  have f21 : a.tmps[21]? = some (.pointer (some ⟨p, 0, none⟩)) := hI.at 8 rfl d8
  have h : R_tik1[9]? = some R_tik1[9] := rfl
  conv at h => rhs; arg 1; whnf
  simp only [wpOp, h]
  rw [if_pos (by rfl)]
  left
  go_simp
  exact ⟨x, hI.put (tik1_nodup p q now m _) 9 ho hd _ _ _ rfl (.inr (rfl)) (by intro e he; cases he; exact hz ▸ (by decide : (22 : Nat) < 201)) hI.wd⟩
theorem tik1_10 (M10 : ∀ (x : ((Option Addr × Nat))) (w : World), X x false w → w.cell? ⟨p, 16, none⟩ = some (.int .i64 60)) (t0 : Array Value) (hz : t0.size = 201) (Q : Exit → Act → World → Prop) : RStepX Tryz.prog R_tik1 (lay_tik1 p q now m) t0 (fun x L => X x (L 11)) Q 10 := by
  intro x L o a w ho hL hd hI
  have d9 : L 9 = true := dep_spec ho hd (k := 9) (by kernel_rfl)
  have f22 : a.tmps[22]? = some (.pointer (some ⟨p, 16, none⟩)) := hI.at 9 rfl d9
  have z11 : L 11 = false := by
    cases q11 : L 11 with
    | false => rfl
    | true =>
      have q10 : L 10 = true := hI.tr q11 (by kernel_rfl)
      rw [hL] at q10; cases q10
  have hw : X x (L 11) w := hI.wd
  rw [z11] at hw
  have hv := M10 x  w hw
  have h : R_tik1[10]? = some R_tik1[10] := rfl
  conv at h => rhs; arg 1; whnf
  simp only [wpOp, h]
  rw [if_pos (by rfl)]
  left
  go_simp
  exact ⟨x, hI.put (tik1_nodup p q now m _) 10 ho hd _ _ _ rfl (.inr (rfl)) (by intro e he; cases he; exact hz ▸ (by decide : (23 : Nat) < 201)) hI.wd⟩
theorem tik1_11 (C11 : ∀ (x : ((Option Addr × Nat))) (w : World), X x false w → Calls Tryz.prog 59 #[.pointer (some ⟨q, 0, none⟩), .int .i64 now, .int .i64 60] w fun e w' => ∃ y : (Option Addr × Nat), e = .returned (.slice (y.1) (m) (y.2)) ∧ X y true w') (t0 : Array Value) (hz : t0.size = 201) (Q : Exit → Act → World → Prop) : RStepX Tryz.prog R_tik1 (lay_tik1 p q now m) t0 (fun x L => X x (L 11)) Q 11 := by
  intro x L o a w ho hL hd hI
  have d1 : L 1 = true := dep_spec ho hd (k := 1) (by kernel_rfl)
  have f14 : a.tmps[14]? = some (.pointer (some ⟨q, 0, none⟩)) := hI.at 1 rfl d1
  have d5 : L 5 = true := dep_spec ho hd (k := 5) (by kernel_rfl)
  have f18 : a.tmps[18]? = some (.int .i64 now) := hI.at 5 rfl d5
  have d10 : L 10 = true := dep_spec ho hd (k := 10) (by kernel_rfl)
  have f23 : a.tmps[23]? = some (.int .i64 60) := hI.at 10 rfl d10
  have z11 : L 11 = false := hL
  have hw : X x (L 11) w := hI.wd
  rw [z11] at hw
  have h : R_tik1[11]? = some R_tik1[11] := rfl
  conv at h => rhs; arg 1; whnf
  simp only [wpOp, h]
  rw [if_pos (by rfl)]
  left
  go_simp
  refine (C11 x  w hw).mono ?_
  rintro e w' ⟨y, rfl, hx⟩
  have hx2 : X y true w' := by
    exact hx
  have n12 : L 12 = false := by
    cases q12 : L 12 with
    | false => rfl
    | true =>
      have q11 : L 11 = true := hI.tr q12 (by kernel_rfl)
      rw [hL] at q11; cases q11
  have hsw : ∀ j, L j = true → ((lay_tik1 p q now m) y)[j]? = ((lay_tik1 p q now m) x)[j]? := by
    intro j hj
    by_cases e11 : j = 11
    · subst e11; rw [hL] at hj; cases hj
    by_cases e12 : j = 12
    · subst e12; rw [n12] at hj; cases hj
    exact tik1_swap11 p q now m x _ j e11 e12
  have hp := (hI.swap (l' := (lay_tik1 p q now m) y) rfl hsw)
  exact ⟨y, (hp.put (w' := w) (tik1_nodup p q now m _) 11 ho hd _ _ _ rfl (.inr (rfl)) (by intro e he; cases he; exact hz ▸ (by decide : (24 : Nat) < 201)) trivial).rewd hx2⟩
theorem tik1_12 (t0 : Array Value) (hz : t0.size = 201) (Q : Exit → Act → World → Prop) : RStepX Tryz.prog R_tik1 (lay_tik1 p q now m) t0 (fun x L => X x (L 11)) Q 12 := by
  intro x L o a w ho hL hd hI
  have d11 : L 11 = true := dep_spec ho hd (k := 11) (by kernel_rfl)
  have f24 : a.tmps[24]? = some (.slice (x.1) (m) (x.2)) := hI.at 11 rfl d11
  have h : R_tik1[12]? = some R_tik1[12] := rfl
  conv at h => rhs; arg 1; whnf
  simp only [wpOp, h]
  rw [if_pos (by rfl)]
  left
  go_simp
  exact ⟨x, hI.put (tik1_nodup p q now m _) 12 ho hd _ _ _ rfl (.inr (rfl)) (by intro e he; cases he; exact hz ▸ (by decide : (25 : Nat) < 201)) hI.wd⟩
theorem tik1_13 (t0 : Array Value) (hz : t0.size = 201) (Q : Exit → Act → World → Prop) : RStepX Tryz.prog R_tik1 (lay_tik1 p q now m) t0 (fun x L => X x (L 11)) Q 13 := by
  intro x L o a w ho hL hd hI
  have h : R_tik1[13]? = some R_tik1[13] := rfl
  conv at h => rhs; arg 1; whnf
  simp only [wpOp, h]
  rw [if_pos (by rfl)]
  left
  go_simp
  exact ⟨x, hI.put (tik1_nodup p q now m _) 13 ho hd _ _ _ rfl (.inr (rfl)) (by intro e he; cases he; exact hz ▸ (by decide : (26 : Nat) < 201)) hI.wd⟩
theorem tik1_step (M5 : ∀ (x : ((Option Addr × Nat))) (w : World), X x false w → w.cell? ⟨p, 20, none⟩ = some (.int .i64 now)) (M10 : ∀ (x : ((Option Addr × Nat))) (w : World), X x false w → w.cell? ⟨p, 16, none⟩ = some (.int .i64 60)) (C1 : ∀ (x : ((Option Addr × Nat))) (w : World), X x false w → Calls Tryz.prog 33 #[.pointer (some ⟨p, 0, none⟩)] w fun e w' => e = .returned (.pointer (some ⟨q, 0, none⟩)) ∧ X x false w') (C11 : ∀ (x : ((Option Addr × Nat))) (w : World), X x false w → Calls Tryz.prog 59 #[.pointer (some ⟨q, 0, none⟩), .int .i64 now, .int .i64 60] w fun e w' => ∃ y : (Option Addr × Nat), e = .returned (.slice (y.1) (m) (y.2)) ∧ X y true w') (t0 : Array Value) (hz : t0.size = 201) (ht0 : t0[0]? = some (.pointer (some ⟨p, 0, none⟩))) (Q : Exit → Act → World → Prop) : ∀ i, i < 14 → RStepX Tryz.prog R_tik1 (lay_tik1 p q now m) t0 (fun x L => X x (L 11)) Q i
  | 0, _ => tik1_0 p q now m X   t0 hz ht0 Q
  | 1, _ => tik1_1 p q now m X  C1 t0 hz  Q
  | 2, _ => tik1_2 p q now m X   t0 hz ht0 Q
  | 3, _ => tik1_3 p q now m X   t0 hz  Q
  | 4, _ => tik1_4 p q now m X   t0 hz  Q
  | 5, _ => tik1_5 p q now m X  M5 t0 hz  Q
  | 6, _ => tik1_6 p q now m X   t0 hz ht0 Q
  | 7, _ => tik1_7 p q now m X   t0 hz  Q
  | 8, _ => tik1_8 p q now m X   t0 hz  Q
  | 9, _ => tik1_9 p q now m X   t0 hz  Q
  | 10, _ => tik1_10 p q now m X  M10 t0 hz  Q
  | 11, _ => tik1_11 p q now m X  C11 t0 hz  Q
  | 12, _ => tik1_12 p q now m X   t0 hz  Q
  | 13, _ => tik1_13 p q now m X   t0 hz  Q
  | k + 14, h => absurd h (by omega)
end
theorem tik1_at {ops : Array Oper} (ho : ops = R_tik1) (p : Nat) (q : Nat) (now : Int) (m : Nat) (X : ((Option Addr × Nat)) → Bool → World → Prop)  (M5 : ∀ (x : ((Option Addr × Nat))) (w : World), X x false w → w.cell? ⟨p, 20, none⟩ = some (.int .i64 now)) (M10 : ∀ (x : ((Option Addr × Nat))) (w : World), X x false w → w.cell? ⟨p, 16, none⟩ = some (.int .i64 60)) (C1 : ∀ (x : ((Option Addr × Nat))) (w : World), X x false w → Calls Tryz.prog 33 #[.pointer (some ⟨p, 0, none⟩)] w fun e w' => e = .returned (.pointer (some ⟨q, 0, none⟩)) ∧ X x false w') (C11 : ∀ (x : ((Option Addr × Nat))) (w : World), X x false w → Calls Tryz.prog 59 #[.pointer (some ⟨q, 0, none⟩), .int .i64 now, .int .i64 60] w fun e w' => ∃ y : (Option Addr × Nat), e = .returned (.slice (y.1) (m) (y.2)) ∧ X y true w') (t0 : Array Value) (hz : t0.size = 201) (ht0 : t0[0]? = some (.pointer (some ⟨p, 0, none⟩))) {id : Nat} {Q : Exit → Act → World → Prop} {w : World} (x0 : ((Option Addr × Nat))) (start : X x0 false w.drew) (fin : ∀ x w', X x true w' → Q .normal ⟨puts ((lay_tik1 p q now m) x) t0, []⟩ w') : (Code.region id ops true).wp Tryz.prog Q ⟨t0, []⟩ w := by
  subst ho
  refine wp_regX (Wd := (fun x L => X x (L 11))) 14 rfl tik1_acyc tik1_size (fun _ => rfl) (tik1_nodup p q now m) (fun x => by rw [tik1_dsts, hz]; rfl) x0 start (fun i hi => tik1_step p q now m X  M5 M10 C1 C11 t0 hz ht0 Q i hi) fun x L w' hl hw => fin x w' ?_
  have hw : X x (L 11) w' := hw
  rw [hl 11 (by omega)] at hw
  exact hw
noncomputable def R_tik6 : Array Oper := reg Tryz.f31 6
theorem tik6_size : R_tik6.size = 12 := by kernel_rfl
theorem tik6_acyc : acycB R_tik6 = true := by kernel_rfl
/-- What the operations lay. -/
noncomputable def lay_tik6 (p : Nat) (l : Nat) (now : Int) (rd : Int) (_ : Unit) : Lay := [(some 34, .pointer (some ⟨p, 0, none⟩)),
  (some 35, .pointer (some ⟨l, 0, none⟩)),
  (some 36, .pointer (some ⟨p, 0, none⟩)),
  (some 37, .pointer (some ⟨p, 0, none⟩)),
  (some 38, .pointer (some ⟨p, 20, none⟩)),
  (some 39, .int .i64 now),
  (some 40, .pointer (some ⟨p, 0, none⟩)),
  (some 41, .pointer (some ⟨p, 0, none⟩)),
  (some 42, .pointer (some ⟨p, 0, none⟩)),
  (some 43, .pointer (some ⟨p, 17, none⟩)),
  (some 44, .int .i64 rd),
  (some 45, .tuple #[])]
theorem tik6_dsts (p : Nat) (l : Nat) (now : Int) (rd : Int) (x : Unit) : dsts (lay_tik6 p l now rd x) = [34, 35, 36, 37, 38, 39, 40, 41, 42, 43, 44, 45] := rfl
theorem tik6_nodup (p : Nat) (l : Nat) (now : Int) (rd : Int) (x : Unit) : (dsts (lay_tik6 p l now rd x)).Nodup := by rw [tik6_dsts]; decide
section
variable (p : Nat) (l : Nat) (now : Int) (rd : Int) (X : (Unit) → Bool → World → Prop)
theorem tik6_0 (t0 : Array Value) (hz : t0.size = 201) (ht0 : t0[0]? = some (.pointer (some ⟨p, 0, none⟩))) (Q : Exit → Act → World → Prop) : RStepX Tryz.prog R_tik6 (lay_tik6 p l now rd) t0 (fun x L => X x (L 11)) Q 0 := by
  intro x L o a w ho hL hd hI
  have f0 : a.tmps[0]? = some (.pointer (some ⟨p, 0, none⟩)) := hI.from ht0 rfl
  have h : R_tik6[0]? = some R_tik6[0] := rfl
  conv at h => rhs; arg 1; whnf
  simp only [wpOp, h]
  rw [if_pos (by rfl)]
  left
  go_simp
  exact ⟨x, hI.put (tik6_nodup p l now rd _) 0 ho hd _ _ _ rfl (.inr (rfl)) (by intro e he; cases he; exact hz ▸ (by decide : (34 : Nat) < 201)) hI.wd⟩
theorem tik6_1 (C1 : ∀ (x : (Unit)) (w : World), X x false w → Calls Tryz.prog 21 #[.pointer (some ⟨p, 0, none⟩)] w fun e w' => e = .returned (.pointer (some ⟨l, 0, none⟩)) ∧ X x false w') (t0 : Array Value) (hz : t0.size = 201) (Q : Exit → Act → World → Prop) : RStepX Tryz.prog R_tik6 (lay_tik6 p l now rd) t0 (fun x L => X x (L 11)) Q 1 := by
  intro x L o a w ho hL hd hI
  have d0 : L 0 = true := dep_spec ho hd (k := 0) (by kernel_rfl)
  have f34 : a.tmps[34]? = some (.pointer (some ⟨p, 0, none⟩)) := hI.at 0 rfl d0
  have z11 : L 11 = false := by
    cases q11 : L 11 with
    | false => rfl
    | true =>
      have q1 : L 1 = true := hI.tr q11 (by kernel_rfl)
      rw [hL] at q1; cases q1
  have hw : X x (L 11) w := hI.wd
  rw [z11] at hw
  have h : R_tik6[1]? = some R_tik6[1] := rfl
  conv at h => rhs; arg 1; whnf
  simp only [wpOp, h]
  rw [if_pos (by rfl)]
  left
  go_simp
  refine (C1 x  w hw).mono ?_
  rintro e w' ⟨rfl, hx⟩
  have hx2 : X x (L 11) w' := by
    rw [z11]
    exact hx
  exact ⟨x, ((hI.rewd (Wd' := fun _ _ => True) (w' := w) trivial).put (w' := w) (tik6_nodup p l now rd _) 1 ho hd _ _ _ rfl (.inr (rfl)) (by intro e he; cases he; exact hz ▸ (by decide : (35 : Nat) < 201)) trivial).rewd hx2⟩
theorem tik6_2 (t0 : Array Value) (hz : t0.size = 201) (ht0 : t0[0]? = some (.pointer (some ⟨p, 0, none⟩))) (Q : Exit → Act → World → Prop) : RStepX Tryz.prog R_tik6 (lay_tik6 p l now rd) t0 (fun x L => X x (L 11)) Q 2 := by
  intro x L o a w ho hL hd hI
  have f0 : a.tmps[0]? = some (.pointer (some ⟨p, 0, none⟩)) := hI.from ht0 rfl
  have h : R_tik6[2]? = some R_tik6[2] := rfl
  conv at h => rhs; arg 1; whnf
  simp only [wpOp, h]
  rw [if_pos (by rfl)]
  left
  go_simp
  exact ⟨x, hI.put (tik6_nodup p l now rd _) 2 ho hd _ _ _ rfl (.inr (rfl)) (by intro e he; cases he; exact hz ▸ (by decide : (36 : Nat) < 201)) hI.wd⟩
theorem tik6_3 (t0 : Array Value) (hz : t0.size = 201) (Q : Exit → Act → World → Prop) : RStepX Tryz.prog R_tik6 (lay_tik6 p l now rd) t0 (fun x L => X x (L 11)) Q 3 := by
  intro x L o a w ho hL hd hI
  have d2 : L 2 = true := dep_spec ho hd (k := 2) (by kernel_rfl)
  have f36 : a.tmps[36]? = some (.pointer (some ⟨p, 0, none⟩)) := hI.at 2 rfl d2
  have h : R_tik6[3]? = some R_tik6[3] := rfl
  conv at h => rhs; arg 1; whnf
  simp only [wpOp, h]
  rw [if_pos (by rfl)]
  left
  go_simp
  exact ⟨x, hI.put (tik6_nodup p l now rd _) 3 ho hd _ _ _ rfl (.inr (rfl)) (by intro e he; cases he; exact hz ▸ (by decide : (37 : Nat) < 201)) hI.wd⟩
theorem tik6_4 (t0 : Array Value) (hz : t0.size = 201) (Q : Exit → Act → World → Prop) : RStepX Tryz.prog R_tik6 (lay_tik6 p l now rd) t0 (fun x L => X x (L 11)) Q 4 := by
  intro x L o a w ho hL hd hI
  have d3 : L 3 = true := dep_spec ho hd (k := 3) (by kernel_rfl)
  have f37 : a.tmps[37]? = some (.pointer (some ⟨p, 0, none⟩)) := hI.at 3 rfl d3
  have h : R_tik6[4]? = some R_tik6[4] := rfl
  conv at h => rhs; arg 1; whnf
  simp only [wpOp, h]
  rw [if_pos (by rfl)]
  left
  go_simp
  exact ⟨x, hI.put (tik6_nodup p l now rd _) 4 ho hd _ _ _ rfl (.inr (rfl)) (by intro e he; cases he; exact hz ▸ (by decide : (38 : Nat) < 201)) hI.wd⟩
theorem tik6_5 (M5 : ∀ (x : (Unit)) (w : World), X x false w → w.cell? ⟨p, 20, none⟩ = some (.int .i64 now)) (t0 : Array Value) (hz : t0.size = 201) (Q : Exit → Act → World → Prop) : RStepX Tryz.prog R_tik6 (lay_tik6 p l now rd) t0 (fun x L => X x (L 11)) Q 5 := by
  intro x L o a w ho hL hd hI
  have d4 : L 4 = true := dep_spec ho hd (k := 4) (by kernel_rfl)
  have f38 : a.tmps[38]? = some (.pointer (some ⟨p, 20, none⟩)) := hI.at 4 rfl d4
  have z11 : L 11 = false := by
    cases q11 : L 11 with
    | false => rfl
    | true =>
      have q5 : L 5 = true := hI.tr q11 (by kernel_rfl)
      rw [hL] at q5; cases q5
  have hw : X x (L 11) w := hI.wd
  rw [z11] at hw
  have hv := M5 x  w hw
  have h : R_tik6[5]? = some R_tik6[5] := rfl
  conv at h => rhs; arg 1; whnf
  simp only [wpOp, h]
  rw [if_pos (by rfl)]
  left
  go_simp
  exact ⟨x, hI.put (tik6_nodup p l now rd _) 5 ho hd _ _ _ rfl (.inr (rfl)) (by intro e he; cases he; exact hz ▸ (by decide : (39 : Nat) < 201)) hI.wd⟩
theorem tik6_6 (t0 : Array Value) (hz : t0.size = 201) (ht0 : t0[0]? = some (.pointer (some ⟨p, 0, none⟩))) (Q : Exit → Act → World → Prop) : RStepX Tryz.prog R_tik6 (lay_tik6 p l now rd) t0 (fun x L => X x (L 11)) Q 6 := by
  intro x L o a w ho hL hd hI
  have f0 : a.tmps[0]? = some (.pointer (some ⟨p, 0, none⟩)) := hI.from ht0 rfl
  have h : R_tik6[6]? = some R_tik6[6] := rfl
  conv at h => rhs; arg 1; whnf
  simp only [wpOp, h]
  rw [if_pos (by rfl)]
  left
  go_simp
  exact ⟨x, hI.put (tik6_nodup p l now rd _) 6 ho hd _ _ _ rfl (.inr (rfl)) (by intro e he; cases he; exact hz ▸ (by decide : (40 : Nat) < 201)) hI.wd⟩
theorem tik6_7 (t0 : Array Value) (hz : t0.size = 201) (Q : Exit → Act → World → Prop) : RStepX Tryz.prog R_tik6 (lay_tik6 p l now rd) t0 (fun x L => X x (L 11)) Q 7 := by
  intro x L o a w ho hL hd hI
  have d6 : L 6 = true := dep_spec ho hd (k := 6) (by kernel_rfl)
  have f40 : a.tmps[40]? = some (.pointer (some ⟨p, 0, none⟩)) := hI.at 6 rfl d6
  have h : R_tik6[7]? = some R_tik6[7] := rfl
  conv at h => rhs; arg 1; whnf
  simp only [wpOp, h]
  rw [if_pos (by rfl)]
  left
  go_simp
  exact ⟨x, hI.put (tik6_nodup p l now rd _) 7 ho hd _ _ _ rfl (.inr (rfl)) (by intro e he; cases he; exact hz ▸ (by decide : (41 : Nat) < 201)) hI.wd⟩
theorem tik6_8 (t0 : Array Value) (hz : t0.size = 201) (Q : Exit → Act → World → Prop) : RStepX Tryz.prog R_tik6 (lay_tik6 p l now rd) t0 (fun x L => X x (L 11)) Q 8 := by
  intro x L o a w ho hL hd hI
  have d7 : L 7 = true := dep_spec ho hd (k := 7) (by kernel_rfl)
  have f41 : a.tmps[41]? = some (.pointer (some ⟨p, 0, none⟩)) := hI.at 7 rfl d7
  have h : R_tik6[8]? = some R_tik6[8] := rfl
  conv at h => rhs; arg 1; whnf
  simp only [wpOp, h]
  rw [if_pos (by rfl)]
  left
  go_simp
  exact ⟨x, hI.put (tik6_nodup p l now rd _) 8 ho hd _ _ _ rfl (.inr (rfl)) (by intro e he; cases he; exact hz ▸ (by decide : (42 : Nat) < 201)) hI.wd⟩
theorem tik6_9 (t0 : Array Value) (hz : t0.size = 201) (Q : Exit → Act → World → Prop) : RStepX Tryz.prog R_tik6 (lay_tik6 p l now rd) t0 (fun x L => X x (L 11)) Q 9 := by
  intro x L o a w ho hL hd hI
  have d8 : L 8 = true := dep_spec ho hd (k := 8) (by kernel_rfl)
  have f42 : a.tmps[42]? = some (.pointer (some ⟨p, 0, none⟩)) := hI.at 8 rfl d8
  have h : R_tik6[9]? = some R_tik6[9] := rfl
  conv at h => rhs; arg 1; whnf
  simp only [wpOp, h]
  rw [if_pos (by rfl)]
  left
  go_simp
  exact ⟨x, hI.put (tik6_nodup p l now rd _) 9 ho hd _ _ _ rfl (.inr (rfl)) (by intro e he; cases he; exact hz ▸ (by decide : (43 : Nat) < 201)) hI.wd⟩
theorem tik6_10 (M10 : ∀ (x : (Unit)) (w : World), X x false w → w.cell? ⟨p, 17, none⟩ = some (.int .i64 rd)) (t0 : Array Value) (hz : t0.size = 201) (Q : Exit → Act → World → Prop) : RStepX Tryz.prog R_tik6 (lay_tik6 p l now rd) t0 (fun x L => X x (L 11)) Q 10 := by
  intro x L o a w ho hL hd hI
  have d9 : L 9 = true := dep_spec ho hd (k := 9) (by kernel_rfl)
  have f43 : a.tmps[43]? = some (.pointer (some ⟨p, 17, none⟩)) := hI.at 9 rfl d9
  have z11 : L 11 = false := by
    cases q11 : L 11 with
    | false => rfl
    | true =>
      have q10 : L 10 = true := hI.tr q11 (by kernel_rfl)
      rw [hL] at q10; cases q10
  have hw : X x (L 11) w := hI.wd
  rw [z11] at hw
  have hv := M10 x  w hw
  have h : R_tik6[10]? = some R_tik6[10] := rfl
  conv at h => rhs; arg 1; whnf
  simp only [wpOp, h]
  rw [if_pos (by rfl)]
  left
  go_simp
  exact ⟨x, hI.put (tik6_nodup p l now rd _) 10 ho hd _ _ _ rfl (.inr (rfl)) (by intro e he; cases he; exact hz ▸ (by decide : (44 : Nat) < 201)) hI.wd⟩
theorem tik6_11 (C11 : ∀ (x : (Unit)) (w : World), X x false w → Calls Tryz.prog 23 #[.pointer (some ⟨l, 0, none⟩), .int .i64 now, .int .i64 rd] w fun e w' => e = .returned (.tuple #[]) ∧ X x true w') (t0 : Array Value) (hz : t0.size = 201) (Q : Exit → Act → World → Prop) : RStepX Tryz.prog R_tik6 (lay_tik6 p l now rd) t0 (fun x L => X x (L 11)) Q 11 := by
  intro x L o a w ho hL hd hI
  have d1 : L 1 = true := dep_spec ho hd (k := 1) (by kernel_rfl)
  have f35 : a.tmps[35]? = some (.pointer (some ⟨l, 0, none⟩)) := hI.at 1 rfl d1
  have d5 : L 5 = true := dep_spec ho hd (k := 5) (by kernel_rfl)
  have f39 : a.tmps[39]? = some (.int .i64 now) := hI.at 5 rfl d5
  have d10 : L 10 = true := dep_spec ho hd (k := 10) (by kernel_rfl)
  have f44 : a.tmps[44]? = some (.int .i64 rd) := hI.at 10 rfl d10
  have z11 : L 11 = false := hL
  have hw : X x (L 11) w := hI.wd
  rw [z11] at hw
  have h : R_tik6[11]? = some R_tik6[11] := rfl
  conv at h => rhs; arg 1; whnf
  simp only [wpOp, h]
  rw [if_pos (by rfl)]
  left
  go_simp
  refine (C11 x  w hw).mono ?_
  rintro e w' ⟨rfl, hx⟩
  have hx2 : X x true w' := by
    exact hx
  exact ⟨x, ((hI.rewd (Wd' := fun _ _ => True) (w' := w) trivial).put (w' := w) (tik6_nodup p l now rd _) 11 ho hd _ _ _ rfl (.inr (rfl)) (by intro e he; cases he; exact hz ▸ (by decide : (45 : Nat) < 201)) trivial).rewd hx2⟩
theorem tik6_step (M5 : ∀ (x : (Unit)) (w : World), X x false w → w.cell? ⟨p, 20, none⟩ = some (.int .i64 now)) (M10 : ∀ (x : (Unit)) (w : World), X x false w → w.cell? ⟨p, 17, none⟩ = some (.int .i64 rd)) (C1 : ∀ (x : (Unit)) (w : World), X x false w → Calls Tryz.prog 21 #[.pointer (some ⟨p, 0, none⟩)] w fun e w' => e = .returned (.pointer (some ⟨l, 0, none⟩)) ∧ X x false w') (C11 : ∀ (x : (Unit)) (w : World), X x false w → Calls Tryz.prog 23 #[.pointer (some ⟨l, 0, none⟩), .int .i64 now, .int .i64 rd] w fun e w' => e = .returned (.tuple #[]) ∧ X x true w') (t0 : Array Value) (hz : t0.size = 201) (ht0 : t0[0]? = some (.pointer (some ⟨p, 0, none⟩))) (Q : Exit → Act → World → Prop) : ∀ i, i < 12 → RStepX Tryz.prog R_tik6 (lay_tik6 p l now rd) t0 (fun x L => X x (L 11)) Q i
  | 0, _ => tik6_0 p l now rd X   t0 hz ht0 Q
  | 1, _ => tik6_1 p l now rd X  C1 t0 hz  Q
  | 2, _ => tik6_2 p l now rd X   t0 hz ht0 Q
  | 3, _ => tik6_3 p l now rd X   t0 hz  Q
  | 4, _ => tik6_4 p l now rd X   t0 hz  Q
  | 5, _ => tik6_5 p l now rd X  M5 t0 hz  Q
  | 6, _ => tik6_6 p l now rd X   t0 hz ht0 Q
  | 7, _ => tik6_7 p l now rd X   t0 hz  Q
  | 8, _ => tik6_8 p l now rd X   t0 hz  Q
  | 9, _ => tik6_9 p l now rd X   t0 hz  Q
  | 10, _ => tik6_10 p l now rd X  M10 t0 hz  Q
  | 11, _ => tik6_11 p l now rd X  C11 t0 hz  Q
  | k + 12, h => absurd h (by omega)
end
theorem tik6_at {ops : Array Oper} (ho : ops = R_tik6) (p : Nat) (l : Nat) (now : Int) (rd : Int) (X : (Unit) → Bool → World → Prop)  (M5 : ∀ (x : (Unit)) (w : World), X x false w → w.cell? ⟨p, 20, none⟩ = some (.int .i64 now)) (M10 : ∀ (x : (Unit)) (w : World), X x false w → w.cell? ⟨p, 17, none⟩ = some (.int .i64 rd)) (C1 : ∀ (x : (Unit)) (w : World), X x false w → Calls Tryz.prog 21 #[.pointer (some ⟨p, 0, none⟩)] w fun e w' => e = .returned (.pointer (some ⟨l, 0, none⟩)) ∧ X x false w') (C11 : ∀ (x : (Unit)) (w : World), X x false w → Calls Tryz.prog 23 #[.pointer (some ⟨l, 0, none⟩), .int .i64 now, .int .i64 rd] w fun e w' => e = .returned (.tuple #[]) ∧ X x true w') (t0 : Array Value) (hz : t0.size = 201) (ht0 : t0[0]? = some (.pointer (some ⟨p, 0, none⟩))) {id : Nat} {Q : Exit → Act → World → Prop} {w : World} (x0 : (Unit)) (start : X x0 false w.drew) (fin : ∀ x w', X x true w' → Q .normal ⟨puts ((lay_tik6 p l now rd) x) t0, []⟩ w') : (Code.region id ops true).wp Tryz.prog Q ⟨t0, []⟩ w := by
  subst ho
  refine wp_regX (Wd := (fun x L => X x (L 11))) 12 rfl tik6_acyc tik6_size (fun _ => rfl) (tik6_nodup p l now rd) (fun x => by rw [tik6_dsts, hz]; rfl) x0 start (fun i hi => tik6_step p l now rd X  M5 M10 C1 C11 t0 hz ht0 Q i hi) fun x L w' hl hw => fin x w' ?_
  have hw : X x (L 11) w' := hw
  rw [hl 11 (by omega)] at hw
  exact hw
noncomputable def R_tik9 : Array Oper := reg Tryz.f31 9
theorem tik9_size : R_tik9.size = 9 := by kernel_rfl
theorem tik9_acyc : acycB R_tik9 = true := by kernel_rfl
/-- What the operations lay. -/
noncomputable def lay_tik9 (p : Nat) (d : Nat) (now : Int) (v : Int) (_ : Unit) : Lay := [(some 58, .pointer (some ⟨p, 0, none⟩)),
  (some 59, .pointer (some ⟨d, 0, none⟩)),
  (some 60, .pointer (some ⟨p, 0, none⟩)),
  (some 61, .pointer (some ⟨p, 0, none⟩)),
  (some 62, .pointer (some ⟨p, 20, none⟩)),
  (some 63, .int .i64 now),
  (some 64, .pointer (some ⟨p, 0, none⟩)),
  (some 65, .int .i64 v),
  (some 66, .int .i64 0)]
theorem tik9_dsts (p : Nat) (d : Nat) (now : Int) (v : Int) (x : Unit) : dsts (lay_tik9 p d now v x) = [58, 59, 60, 61, 62, 63, 64, 65, 66] := rfl
theorem tik9_nodup (p : Nat) (d : Nat) (now : Int) (v : Int) (x : Unit) : (dsts (lay_tik9 p d now v x)).Nodup := by rw [tik9_dsts]; decide
section
variable (p : Nat) (d : Nat) (now : Int) (v : Int) (X : (Unit) → Bool → World → Prop)
theorem tik9_0 (t0 : Array Value) (hz : t0.size = 201) (ht0 : t0[0]? = some (.pointer (some ⟨p, 0, none⟩))) (Q : Exit → Act → World → Prop) : RStepX Tryz.prog R_tik9 (lay_tik9 p d now v) t0 (fun x L => X x (L 8)) Q 0 := by
  intro x L o a w ho hL hd hI
  have f0 : a.tmps[0]? = some (.pointer (some ⟨p, 0, none⟩)) := hI.from ht0 rfl
  have h : R_tik9[0]? = some R_tik9[0] := rfl
  conv at h => rhs; arg 1; whnf
  simp only [wpOp, h]
  rw [if_pos (by rfl)]
  left
  go_simp
  exact ⟨x, hI.put (tik9_nodup p d now v _) 0 ho hd _ _ _ rfl (.inr (rfl)) (by intro e he; cases he; exact hz ▸ (by decide : (58 : Nat) < 201)) hI.wd⟩
theorem tik9_1 (C1 : ∀ (x : (Unit)) (w : World), X x false w → Calls Tryz.prog 35 #[.pointer (some ⟨p, 0, none⟩)] w fun e w' => e = .returned (.pointer (some ⟨d, 0, none⟩)) ∧ X x false w') (t0 : Array Value) (hz : t0.size = 201) (Q : Exit → Act → World → Prop) : RStepX Tryz.prog R_tik9 (lay_tik9 p d now v) t0 (fun x L => X x (L 8)) Q 1 := by
  intro x L o a w ho hL hd hI
  have d0 : L 0 = true := dep_spec ho hd (k := 0) (by kernel_rfl)
  have f58 : a.tmps[58]? = some (.pointer (some ⟨p, 0, none⟩)) := hI.at 0 rfl d0
  have z8 : L 8 = false := by
    cases q8 : L 8 with
    | false => rfl
    | true =>
      have q1 : L 1 = true := hI.tr q8 (by kernel_rfl)
      rw [hL] at q1; cases q1
  have hw : X x (L 8) w := hI.wd
  rw [z8] at hw
  have h : R_tik9[1]? = some R_tik9[1] := rfl
  conv at h => rhs; arg 1; whnf
  simp only [wpOp, h]
  rw [if_pos (by rfl)]
  left
  go_simp
  refine (C1 x  w hw).mono ?_
  rintro e w' ⟨rfl, hx⟩
  have hx2 : X x (L 8) w' := by
    rw [z8]
    exact hx
  exact ⟨x, ((hI.rewd (Wd' := fun _ _ => True) (w' := w) trivial).put (w' := w) (tik9_nodup p d now v _) 1 ho hd _ _ _ rfl (.inr (rfl)) (by intro e he; cases he; exact hz ▸ (by decide : (59 : Nat) < 201)) trivial).rewd hx2⟩
theorem tik9_2 (t0 : Array Value) (hz : t0.size = 201) (ht0 : t0[0]? = some (.pointer (some ⟨p, 0, none⟩))) (Q : Exit → Act → World → Prop) : RStepX Tryz.prog R_tik9 (lay_tik9 p d now v) t0 (fun x L => X x (L 8)) Q 2 := by
  intro x L o a w ho hL hd hI
  have f0 : a.tmps[0]? = some (.pointer (some ⟨p, 0, none⟩)) := hI.from ht0 rfl
  have h : R_tik9[2]? = some R_tik9[2] := rfl
  conv at h => rhs; arg 1; whnf
  simp only [wpOp, h]
  rw [if_pos (by rfl)]
  left
  go_simp
  exact ⟨x, hI.put (tik9_nodup p d now v _) 2 ho hd _ _ _ rfl (.inr (rfl)) (by intro e he; cases he; exact hz ▸ (by decide : (60 : Nat) < 201)) hI.wd⟩
theorem tik9_3 (t0 : Array Value) (hz : t0.size = 201) (Q : Exit → Act → World → Prop) : RStepX Tryz.prog R_tik9 (lay_tik9 p d now v) t0 (fun x L => X x (L 8)) Q 3 := by
  intro x L o a w ho hL hd hI
  have d2 : L 2 = true := dep_spec ho hd (k := 2) (by kernel_rfl)
  have f60 : a.tmps[60]? = some (.pointer (some ⟨p, 0, none⟩)) := hI.at 2 rfl d2
  have h : R_tik9[3]? = some R_tik9[3] := rfl
  conv at h => rhs; arg 1; whnf
  simp only [wpOp, h]
  rw [if_pos (by rfl)]
  left
  go_simp
  exact ⟨x, hI.put (tik9_nodup p d now v _) 3 ho hd _ _ _ rfl (.inr (rfl)) (by intro e he; cases he; exact hz ▸ (by decide : (61 : Nat) < 201)) hI.wd⟩
theorem tik9_4 (t0 : Array Value) (hz : t0.size = 201) (Q : Exit → Act → World → Prop) : RStepX Tryz.prog R_tik9 (lay_tik9 p d now v) t0 (fun x L => X x (L 8)) Q 4 := by
  intro x L o a w ho hL hd hI
  have d3 : L 3 = true := dep_spec ho hd (k := 3) (by kernel_rfl)
  have f61 : a.tmps[61]? = some (.pointer (some ⟨p, 0, none⟩)) := hI.at 3 rfl d3
  have h : R_tik9[4]? = some R_tik9[4] := rfl
  conv at h => rhs; arg 1; whnf
  simp only [wpOp, h]
  rw [if_pos (by rfl)]
  left
  go_simp
  exact ⟨x, hI.put (tik9_nodup p d now v _) 4 ho hd _ _ _ rfl (.inr (rfl)) (by intro e he; cases he; exact hz ▸ (by decide : (62 : Nat) < 201)) hI.wd⟩
theorem tik9_5 (M5 : ∀ (x : (Unit)) (w : World), X x false w → w.cell? ⟨p, 20, none⟩ = some (.int .i64 now)) (t0 : Array Value) (hz : t0.size = 201) (Q : Exit → Act → World → Prop) : RStepX Tryz.prog R_tik9 (lay_tik9 p d now v) t0 (fun x L => X x (L 8)) Q 5 := by
  intro x L o a w ho hL hd hI
  have d4 : L 4 = true := dep_spec ho hd (k := 4) (by kernel_rfl)
  have f62 : a.tmps[62]? = some (.pointer (some ⟨p, 20, none⟩)) := hI.at 4 rfl d4
  have z8 : L 8 = false := by
    cases q8 : L 8 with
    | false => rfl
    | true =>
      have q5 : L 5 = true := hI.tr q8 (by kernel_rfl)
      rw [hL] at q5; cases q5
  have hw : X x (L 8) w := hI.wd
  rw [z8] at hw
  have hv := M5 x  w hw
  have h : R_tik9[5]? = some R_tik9[5] := rfl
  conv at h => rhs; arg 1; whnf
  simp only [wpOp, h]
  rw [if_pos (by rfl)]
  left
  go_simp
  exact ⟨x, hI.put (tik9_nodup p d now v _) 5 ho hd _ _ _ rfl (.inr (rfl)) (by intro e he; cases he; exact hz ▸ (by decide : (63 : Nat) < 201)) hI.wd⟩
theorem tik9_6 (t0 : Array Value) (hz : t0.size = 201) (ht0 : t0[0]? = some (.pointer (some ⟨p, 0, none⟩))) (Q : Exit → Act → World → Prop) : RStepX Tryz.prog R_tik9 (lay_tik9 p d now v) t0 (fun x L => X x (L 8)) Q 6 := by
  intro x L o a w ho hL hd hI
  have f0 : a.tmps[0]? = some (.pointer (some ⟨p, 0, none⟩)) := hI.from ht0 rfl
  have h : R_tik9[6]? = some R_tik9[6] := rfl
  conv at h => rhs; arg 1; whnf
  simp only [wpOp, h]
  rw [if_pos (by rfl)]
  left
  go_simp
  exact ⟨x, hI.put (tik9_nodup p d now v _) 6 ho hd _ _ _ rfl (.inr (rfl)) (by intro e he; cases he; exact hz ▸ (by decide : (64 : Nat) < 201)) hI.wd⟩
theorem tik9_7 (C7 : ∀ (x : (Unit)) (w : World), X x false w → Calls Tryz.prog 61 #[.pointer (some ⟨p, 0, none⟩)] w fun e w' => e = .returned (.int .i64 v) ∧ X x false w') (t0 : Array Value) (hz : t0.size = 201) (Q : Exit → Act → World → Prop) : RStepX Tryz.prog R_tik9 (lay_tik9 p d now v) t0 (fun x L => X x (L 8)) Q 7 := by
  intro x L o a w ho hL hd hI
  have d6 : L 6 = true := dep_spec ho hd (k := 6) (by kernel_rfl)
  have f64 : a.tmps[64]? = some (.pointer (some ⟨p, 0, none⟩)) := hI.at 6 rfl d6
  have z8 : L 8 = false := by
    cases q8 : L 8 with
    | false => rfl
    | true =>
      have q7 : L 7 = true := hI.tr q8 (by kernel_rfl)
      rw [hL] at q7; cases q7
  have hw : X x (L 8) w := hI.wd
  rw [z8] at hw
  have h : R_tik9[7]? = some R_tik9[7] := rfl
  conv at h => rhs; arg 1; whnf
  simp only [wpOp, h]
  rw [if_pos (by rfl)]
  left
  go_simp
  refine (C7 x  w hw).mono ?_
  rintro e w' ⟨rfl, hx⟩
  have hx2 : X x (L 8) w' := by
    rw [z8]
    exact hx
  exact ⟨x, ((hI.rewd (Wd' := fun _ _ => True) (w' := w) trivial).put (w' := w) (tik9_nodup p d now v _) 7 ho hd _ _ _ rfl (.inr (rfl)) (by intro e he; cases he; exact hz ▸ (by decide : (65 : Nat) < 201)) trivial).rewd hx2⟩
theorem tik9_8 (C8 : ∀ (x : (Unit)) (w : World), X x false w → Calls Tryz.prog 60 #[.pointer (some ⟨d, 0, none⟩), .int .i64 now, .int .i64 v] w fun e w' => e = .returned (.int .i64 0) ∧ X x true w') (t0 : Array Value) (hz : t0.size = 201) (Q : Exit → Act → World → Prop) : RStepX Tryz.prog R_tik9 (lay_tik9 p d now v) t0 (fun x L => X x (L 8)) Q 8 := by
  intro x L o a w ho hL hd hI
  have d1 : L 1 = true := dep_spec ho hd (k := 1) (by kernel_rfl)
  have f59 : a.tmps[59]? = some (.pointer (some ⟨d, 0, none⟩)) := hI.at 1 rfl d1
  have d5 : L 5 = true := dep_spec ho hd (k := 5) (by kernel_rfl)
  have f63 : a.tmps[63]? = some (.int .i64 now) := hI.at 5 rfl d5
  have d7 : L 7 = true := dep_spec ho hd (k := 7) (by kernel_rfl)
  have f65 : a.tmps[65]? = some (.int .i64 v) := hI.at 7 rfl d7
  have z8 : L 8 = false := hL
  have hw : X x (L 8) w := hI.wd
  rw [z8] at hw
  have h : R_tik9[8]? = some R_tik9[8] := rfl
  conv at h => rhs; arg 1; whnf
  simp only [wpOp, h]
  rw [if_pos (by rfl)]
  left
  go_simp
  refine (C8 x  w hw).mono ?_
  rintro e w' ⟨rfl, hx⟩
  have hx2 : X x true w' := by
    exact hx
  exact ⟨x, ((hI.rewd (Wd' := fun _ _ => True) (w' := w) trivial).put (w' := w) (tik9_nodup p d now v _) 8 ho hd _ _ _ rfl (.inr (rfl)) (by intro e he; cases he; exact hz ▸ (by decide : (66 : Nat) < 201)) trivial).rewd hx2⟩
theorem tik9_step (M5 : ∀ (x : (Unit)) (w : World), X x false w → w.cell? ⟨p, 20, none⟩ = some (.int .i64 now)) (C1 : ∀ (x : (Unit)) (w : World), X x false w → Calls Tryz.prog 35 #[.pointer (some ⟨p, 0, none⟩)] w fun e w' => e = .returned (.pointer (some ⟨d, 0, none⟩)) ∧ X x false w') (C7 : ∀ (x : (Unit)) (w : World), X x false w → Calls Tryz.prog 61 #[.pointer (some ⟨p, 0, none⟩)] w fun e w' => e = .returned (.int .i64 v) ∧ X x false w') (C8 : ∀ (x : (Unit)) (w : World), X x false w → Calls Tryz.prog 60 #[.pointer (some ⟨d, 0, none⟩), .int .i64 now, .int .i64 v] w fun e w' => e = .returned (.int .i64 0) ∧ X x true w') (t0 : Array Value) (hz : t0.size = 201) (ht0 : t0[0]? = some (.pointer (some ⟨p, 0, none⟩))) (Q : Exit → Act → World → Prop) : ∀ i, i < 9 → RStepX Tryz.prog R_tik9 (lay_tik9 p d now v) t0 (fun x L => X x (L 8)) Q i
  | 0, _ => tik9_0 p d now v X   t0 hz ht0 Q
  | 1, _ => tik9_1 p d now v X  C1 t0 hz  Q
  | 2, _ => tik9_2 p d now v X   t0 hz ht0 Q
  | 3, _ => tik9_3 p d now v X   t0 hz  Q
  | 4, _ => tik9_4 p d now v X   t0 hz  Q
  | 5, _ => tik9_5 p d now v X  M5 t0 hz  Q
  | 6, _ => tik9_6 p d now v X   t0 hz ht0 Q
  | 7, _ => tik9_7 p d now v X  C7 t0 hz  Q
  | 8, _ => tik9_8 p d now v X  C8 t0 hz  Q
  | k + 9, h => absurd h (by omega)
end
theorem tik9_at {ops : Array Oper} (ho : ops = R_tik9) (p : Nat) (d : Nat) (now : Int) (v : Int) (X : (Unit) → Bool → World → Prop)  (M5 : ∀ (x : (Unit)) (w : World), X x false w → w.cell? ⟨p, 20, none⟩ = some (.int .i64 now)) (C1 : ∀ (x : (Unit)) (w : World), X x false w → Calls Tryz.prog 35 #[.pointer (some ⟨p, 0, none⟩)] w fun e w' => e = .returned (.pointer (some ⟨d, 0, none⟩)) ∧ X x false w') (C7 : ∀ (x : (Unit)) (w : World), X x false w → Calls Tryz.prog 61 #[.pointer (some ⟨p, 0, none⟩)] w fun e w' => e = .returned (.int .i64 v) ∧ X x false w') (C8 : ∀ (x : (Unit)) (w : World), X x false w → Calls Tryz.prog 60 #[.pointer (some ⟨d, 0, none⟩), .int .i64 now, .int .i64 v] w fun e w' => e = .returned (.int .i64 0) ∧ X x true w') (t0 : Array Value) (hz : t0.size = 201) (ht0 : t0[0]? = some (.pointer (some ⟨p, 0, none⟩))) {id : Nat} {Q : Exit → Act → World → Prop} {w : World} (x0 : (Unit)) (start : X x0 false w.drew) (fin : ∀ x w', X x true w' → Q .normal ⟨puts ((lay_tik9 p d now v) x) t0, []⟩ w') : (Code.region id ops true).wp Tryz.prog Q ⟨t0, []⟩ w := by
  subst ho
  refine wp_regX (Wd := (fun x L => X x (L 8))) 9 rfl tik9_acyc tik9_size (fun _ => rfl) (tik9_nodup p d now v) (fun x => by rw [tik9_dsts, hz]; rfl) x0 start (fun i hi => tik9_step p d now v X  M5 C1 C7 C8 t0 hz ht0 Q i hi) fun x L w' hl hw => fin x w' ?_
  have hw : X x (L 8) w' := hw
  rw [hl 8 (by omega)] at hw
  exact hw
noncomputable def R_tik11 : Array Oper := reg Tryz.f31 11
theorem tik11_size : R_tik11.size = 15 := by kernel_rfl
theorem tik11_acyc : acycB R_tik11 = true := by kernel_rfl
/-- What the operations lay. -/
noncomputable def lay_tik11 (p : Nat) (d : Nat) (now : Int) (rdy : Int) (st : Int) (qu : Int) (wn : Int) (pn : Bool) (ex : Int) (_ : Unit) : Lay := [(some 72, .pointer (some ⟨p, 0, none⟩)),
  (some 73, .pointer (some ⟨p, 0, none⟩)),
  (some 74, .pointer (some ⟨d, 0, none⟩)),
  (some 75, .pointer (some ⟨p, 0, none⟩)),
  (some 76, .pointer (some ⟨p, 0, none⟩)),
  (some 77, .pointer (some ⟨p, 20, none⟩)),
  (some 78, .int .i64 now),
  (some 79, .int .i64 rdy),
  (some 80, .tuple #[.agg #[.int .i64 now, .int .i64 st, .int .i64 qu, .int .i64 wn, .bool pn, .int .i64 ex], .int .i64 0]),
  (some 71, .tuple #[.agg #[.int .i64 now, .int .i64 st, .int .i64 qu, .int .i64 wn, .bool pn, .int .i64 ex], .int .i64 0]),
  (some 81, .agg #[.int .i64 now, .int .i64 st, .int .i64 qu, .int .i64 wn, .bool pn, .int .i64 ex]),
  (some 82, .int .i64 0),
  (some 83, .pointer (some ⟨p, 0, none⟩)),
  (some 84, .pointer (some ⟨p, 23, none⟩)),
  (none, undef)]
theorem tik11_dsts (p : Nat) (d : Nat) (now : Int) (rdy : Int) (st : Int) (qu : Int) (wn : Int) (pn : Bool) (ex : Int) (x : Unit) : dsts (lay_tik11 p d now rdy st qu wn pn ex x) = [72, 73, 74, 75, 76, 77, 78, 79, 80, 71, 81, 82, 83, 84] := rfl
theorem tik11_nodup (p : Nat) (d : Nat) (now : Int) (rdy : Int) (st : Int) (qu : Int) (wn : Int) (pn : Bool) (ex : Int) (x : Unit) : (dsts (lay_tik11 p d now rdy st qu wn pn ex x)).Nodup := by rw [tik11_dsts]; decide
section
variable (p : Nat) (d : Nat) (now : Int) (rdy : Int) (st : Int) (qu : Int) (wn : Int) (pn : Bool) (ex : Int) (X : (Unit) → Bool → Bool → World → Prop)
theorem tik11_0 (t0 : Array Value) (hz : t0.size = 201) (ht0 : t0[0]? = some (.pointer (some ⟨p, 0, none⟩))) (Q : Exit → Act → World → Prop) : RStepX Tryz.prog R_tik11 (lay_tik11 p d now rdy st qu wn pn ex) t0 (fun x L => X x (L 8) (L 14)) Q 0 := by
  intro x L o a w ho hL hd hI
  have f0 : a.tmps[0]? = some (.pointer (some ⟨p, 0, none⟩)) := hI.from ht0 rfl
  have h : R_tik11[0]? = some R_tik11[0] := rfl
  conv at h => rhs; arg 1; whnf
  simp only [wpOp, h]
  rw [if_pos (by rfl)]
  left
  go_simp
  exact ⟨x, hI.put (tik11_nodup p d now rdy st qu wn pn ex _) 0 ho hd _ _ _ rfl (.inr (rfl)) (by intro e he; cases he; exact hz ▸ (by decide : (72 : Nat) < 201)) hI.wd⟩
theorem tik11_1 (t0 : Array Value) (hz : t0.size = 201) (ht0 : t0[0]? = some (.pointer (some ⟨p, 0, none⟩))) (Q : Exit → Act → World → Prop) : RStepX Tryz.prog R_tik11 (lay_tik11 p d now rdy st qu wn pn ex) t0 (fun x L => X x (L 8) (L 14)) Q 1 := by
  intro x L o a w ho hL hd hI
  have f0 : a.tmps[0]? = some (.pointer (some ⟨p, 0, none⟩)) := hI.from ht0 rfl
  have h : R_tik11[1]? = some R_tik11[1] := rfl
  conv at h => rhs; arg 1; whnf
  simp only [wpOp, h]
  rw [if_pos (by rfl)]
  left
  go_simp
  exact ⟨x, hI.put (tik11_nodup p d now rdy st qu wn pn ex _) 1 ho hd _ _ _ rfl (.inr (rfl)) (by intro e he; cases he; exact hz ▸ (by decide : (73 : Nat) < 201)) hI.wd⟩
theorem tik11_2 (C2 : ∀ (x : (Unit)) (w : World), X x false false w → Calls Tryz.prog 35 #[.pointer (some ⟨p, 0, none⟩)] w fun e w' => e = .returned (.pointer (some ⟨d, 0, none⟩)) ∧ X x false false w') (t0 : Array Value) (hz : t0.size = 201) (Q : Exit → Act → World → Prop) : RStepX Tryz.prog R_tik11 (lay_tik11 p d now rdy st qu wn pn ex) t0 (fun x L => X x (L 8) (L 14)) Q 2 := by
  intro x L o a w ho hL hd hI
  have d1 : L 1 = true := dep_spec ho hd (k := 1) (by kernel_rfl)
  have f73 : a.tmps[73]? = some (.pointer (some ⟨p, 0, none⟩)) := hI.at 1 rfl d1
  have z8 : L 8 = false := by
    cases q8 : L 8 with
    | false => rfl
    | true =>
      have q2 : L 2 = true := hI.tr q8 (by kernel_rfl)
      rw [hL] at q2; cases q2
  have z14 : L 14 = false := by
    cases q14 : L 14 with
    | false => rfl
    | true =>
      have q2 : L 2 = true := hI.tr q14 (by kernel_rfl)
      rw [hL] at q2; cases q2
  have hw : X x (L 8) (L 14) w := hI.wd
  rw [z8, z14] at hw
  have h : R_tik11[2]? = some R_tik11[2] := rfl
  conv at h => rhs; arg 1; whnf
  simp only [wpOp, h]
  rw [if_pos (by rfl)]
  left
  go_simp
  refine (C2 x  w hw).mono ?_
  rintro e w' ⟨rfl, hx⟩
  have hx2 : X x (L 8) (L 14) w' := by
    rw [z8, z14]
    exact hx
  exact ⟨x, ((hI.rewd (Wd' := fun _ _ => True) (w' := w) trivial).put (w' := w) (tik11_nodup p d now rdy st qu wn pn ex _) 2 ho hd _ _ _ rfl (.inr (rfl)) (by intro e he; cases he; exact hz ▸ (by decide : (74 : Nat) < 201)) trivial).rewd hx2⟩
theorem tik11_3 (t0 : Array Value) (hz : t0.size = 201) (ht0 : t0[0]? = some (.pointer (some ⟨p, 0, none⟩))) (Q : Exit → Act → World → Prop) : RStepX Tryz.prog R_tik11 (lay_tik11 p d now rdy st qu wn pn ex) t0 (fun x L => X x (L 8) (L 14)) Q 3 := by
  intro x L o a w ho hL hd hI
  have f0 : a.tmps[0]? = some (.pointer (some ⟨p, 0, none⟩)) := hI.from ht0 rfl
  have h : R_tik11[3]? = some R_tik11[3] := rfl
  conv at h => rhs; arg 1; whnf
  simp only [wpOp, h]
  rw [if_pos (by rfl)]
  left
  go_simp
  exact ⟨x, hI.put (tik11_nodup p d now rdy st qu wn pn ex _) 3 ho hd _ _ _ rfl (.inr (rfl)) (by intro e he; cases he; exact hz ▸ (by decide : (75 : Nat) < 201)) hI.wd⟩
theorem tik11_4 (t0 : Array Value) (hz : t0.size = 201) (Q : Exit → Act → World → Prop) : RStepX Tryz.prog R_tik11 (lay_tik11 p d now rdy st qu wn pn ex) t0 (fun x L => X x (L 8) (L 14)) Q 4 := by
  intro x L o a w ho hL hd hI
  have d3 : L 3 = true := dep_spec ho hd (k := 3) (by kernel_rfl)
  have f75 : a.tmps[75]? = some (.pointer (some ⟨p, 0, none⟩)) := hI.at 3 rfl d3
  have h : R_tik11[4]? = some R_tik11[4] := rfl
  conv at h => rhs; arg 1; whnf
  simp only [wpOp, h]
  rw [if_pos (by rfl)]
  left
  go_simp
  exact ⟨x, hI.put (tik11_nodup p d now rdy st qu wn pn ex _) 4 ho hd _ _ _ rfl (.inr (rfl)) (by intro e he; cases he; exact hz ▸ (by decide : (76 : Nat) < 201)) hI.wd⟩
theorem tik11_5 (t0 : Array Value) (hz : t0.size = 201) (Q : Exit → Act → World → Prop) : RStepX Tryz.prog R_tik11 (lay_tik11 p d now rdy st qu wn pn ex) t0 (fun x L => X x (L 8) (L 14)) Q 5 := by
  intro x L o a w ho hL hd hI
  have d4 : L 4 = true := dep_spec ho hd (k := 4) (by kernel_rfl)
  have f76 : a.tmps[76]? = some (.pointer (some ⟨p, 0, none⟩)) := hI.at 4 rfl d4
  have h : R_tik11[5]? = some R_tik11[5] := rfl
  conv at h => rhs; arg 1; whnf
  simp only [wpOp, h]
  rw [if_pos (by rfl)]
  left
  go_simp
  exact ⟨x, hI.put (tik11_nodup p d now rdy st qu wn pn ex _) 5 ho hd _ _ _ rfl (.inr (rfl)) (by intro e he; cases he; exact hz ▸ (by decide : (77 : Nat) < 201)) hI.wd⟩
theorem tik11_6 (M6 : ∀ (x : (Unit)) (w : World), X x false false w → w.cell? ⟨p, 20, none⟩ = some (.int .i64 now)) (t0 : Array Value) (hz : t0.size = 201) (Q : Exit → Act → World → Prop) : RStepX Tryz.prog R_tik11 (lay_tik11 p d now rdy st qu wn pn ex) t0 (fun x L => X x (L 8) (L 14)) Q 6 := by
  intro x L o a w ho hL hd hI
  have d5 : L 5 = true := dep_spec ho hd (k := 5) (by kernel_rfl)
  have f77 : a.tmps[77]? = some (.pointer (some ⟨p, 20, none⟩)) := hI.at 5 rfl d5
  have z8 : L 8 = false := by
    cases q8 : L 8 with
    | false => rfl
    | true =>
      have q6 : L 6 = true := hI.tr q8 (by kernel_rfl)
      rw [hL] at q6; cases q6
  have z14 : L 14 = false := by
    cases q14 : L 14 with
    | false => rfl
    | true =>
      have q6 : L 6 = true := hI.tr q14 (by kernel_rfl)
      rw [hL] at q6; cases q6
  have hw : X x (L 8) (L 14) w := hI.wd
  rw [z8, z14] at hw
  have hv := M6 x  w hw
  have h : R_tik11[6]? = some R_tik11[6] := rfl
  conv at h => rhs; arg 1; whnf
  simp only [wpOp, h]
  rw [if_pos (by rfl)]
  left
  go_simp
  exact ⟨x, hI.put (tik11_nodup p d now rdy st qu wn pn ex _) 6 ho hd _ _ _ rfl (.inr (rfl)) (by intro e he; cases he; exact hz ▸ (by decide : (78 : Nat) < 201)) hI.wd⟩
theorem tik11_7 (t0 : Array Value) (hz : t0.size = 201) (ht4 : t0[4]? = some (.int .i64 rdy)) (Q : Exit → Act → World → Prop) : RStepX Tryz.prog R_tik11 (lay_tik11 p d now rdy st qu wn pn ex) t0 (fun x L => X x (L 8) (L 14)) Q 7 := by
  intro x L o a w ho hL hd hI
  have f4 : a.tmps[4]? = some (.int .i64 rdy) := hI.from ht4 rfl
  have h : R_tik11[7]? = some R_tik11[7] := rfl
  conv at h => rhs; arg 1; whnf
  simp only [wpOp, h]
  rw [if_pos (by rfl)]
  left
  go_simp
  exact ⟨x, hI.put (tik11_nodup p d now rdy st qu wn pn ex _) 7 ho hd _ _ _ rfl (.inr (rfl)) (by intro e he; cases he; exact hz ▸ (by decide : (79 : Nat) < 201)) hI.wd⟩
theorem tik11_8 (C8 : ∀ (x : (Unit)) (w : World), X x false false w → Calls Tryz.prog 63 #[.pointer (some ⟨d, 0, none⟩), .int .i64 now, .int .i64 rdy] w fun e w' => e = .returned (.tuple #[.agg #[.int .i64 now, .int .i64 st, .int .i64 qu, .int .i64 wn, .bool pn, .int .i64 ex], .int .i64 0]) ∧ X x true false w') (t0 : Array Value) (hz : t0.size = 201) (Q : Exit → Act → World → Prop) : RStepX Tryz.prog R_tik11 (lay_tik11 p d now rdy st qu wn pn ex) t0 (fun x L => X x (L 8) (L 14)) Q 8 := by
  intro x L o a w ho hL hd hI
  have d2 : L 2 = true := dep_spec ho hd (k := 2) (by kernel_rfl)
  have f74 : a.tmps[74]? = some (.pointer (some ⟨d, 0, none⟩)) := hI.at 2 rfl d2
  have d6 : L 6 = true := dep_spec ho hd (k := 6) (by kernel_rfl)
  have f78 : a.tmps[78]? = some (.int .i64 now) := hI.at 6 rfl d6
  have d7 : L 7 = true := dep_spec ho hd (k := 7) (by kernel_rfl)
  have f79 : a.tmps[79]? = some (.int .i64 rdy) := hI.at 7 rfl d7
  have z8 : L 8 = false := hL
  have z14 : L 14 = false := by
    cases q14 : L 14 with
    | false => rfl
    | true =>
      have q8 : L 8 = true := hI.tr q14 (by kernel_rfl)
      rw [hL] at q8; cases q8
  have hw : X x (L 8) (L 14) w := hI.wd
  rw [z8, z14] at hw
  have h : R_tik11[8]? = some R_tik11[8] := rfl
  conv at h => rhs; arg 1; whnf
  simp only [wpOp, h]
  rw [if_pos (by rfl)]
  left
  go_simp
  refine (C8 x  w hw).mono ?_
  rintro e w' ⟨rfl, hx⟩
  have hx2 : X x true (L 14) w' := by
    rw [z14]
    exact hx
  exact ⟨x, ((hI.rewd (Wd' := fun _ _ => True) (w' := w) trivial).put (w' := w) (tik11_nodup p d now rdy st qu wn pn ex _) 8 ho hd _ _ _ rfl (.inr (rfl)) (by intro e he; cases he; exact hz ▸ (by decide : (80 : Nat) < 201)) trivial).rewd hx2⟩
theorem tik11_9 (t0 : Array Value) (hz : t0.size = 201) (Q : Exit → Act → World → Prop) : RStepX Tryz.prog R_tik11 (lay_tik11 p d now rdy st qu wn pn ex) t0 (fun x L => X x (L 8) (L 14)) Q 9 := by
  intro x L o a w ho hL hd hI
  have d8 : L 8 = true := dep_spec ho hd (k := 8) (by kernel_rfl)
  have f80 : a.tmps[80]? = some (.tuple #[.agg #[.int .i64 now, .int .i64 st, .int .i64 qu, .int .i64 wn, .bool pn, .int .i64 ex], .int .i64 0]) := hI.at 8 rfl d8
  have h : R_tik11[9]? = some R_tik11[9] := rfl
  conv at h => rhs; arg 1; whnf
  simp only [wpOp, h]
  rw [if_pos (by rfl)]
  left
  go_simp
  exact ⟨x, hI.put (tik11_nodup p d now rdy st qu wn pn ex _) 9 ho hd _ _ _ rfl (.inr (rfl)) (by intro e he; cases he; exact hz ▸ (by decide : (71 : Nat) < 201)) hI.wd⟩
theorem tik11_10 (t0 : Array Value) (hz : t0.size = 201) (Q : Exit → Act → World → Prop) : RStepX Tryz.prog R_tik11 (lay_tik11 p d now rdy st qu wn pn ex) t0 (fun x L => X x (L 8) (L 14)) Q 10 := by
  intro x L o a w ho hL hd hI
  have d9 : L 9 = true := dep_spec ho hd (k := 9) (by kernel_rfl)
  have f71 : a.tmps[71]? = some (.tuple #[.agg #[.int .i64 now, .int .i64 st, .int .i64 qu, .int .i64 wn, .bool pn, .int .i64 ex], .int .i64 0]) := hI.at 9 rfl d9
  have h : R_tik11[10]? = some R_tik11[10] := rfl
  conv at h => rhs; arg 1; whnf
  simp only [wpOp, h]
  rw [if_pos (by rfl)]
  left
  go_simp
  exact ⟨x, hI.put (tik11_nodup p d now rdy st qu wn pn ex _) 10 ho hd _ _ _ rfl (.inr (rfl)) (by intro e he; cases he; exact hz ▸ (by decide : (81 : Nat) < 201)) hI.wd⟩
theorem tik11_11 (t0 : Array Value) (hz : t0.size = 201) (Q : Exit → Act → World → Prop) : RStepX Tryz.prog R_tik11 (lay_tik11 p d now rdy st qu wn pn ex) t0 (fun x L => X x (L 8) (L 14)) Q 11 := by
  intro x L o a w ho hL hd hI
  have d9 : L 9 = true := dep_spec ho hd (k := 9) (by kernel_rfl)
  have f71 : a.tmps[71]? = some (.tuple #[.agg #[.int .i64 now, .int .i64 st, .int .i64 qu, .int .i64 wn, .bool pn, .int .i64 ex], .int .i64 0]) := hI.at 9 rfl d9
  have h : R_tik11[11]? = some R_tik11[11] := rfl
  conv at h => rhs; arg 1; whnf
  simp only [wpOp, h]
  rw [if_pos (by rfl)]
  left
  go_simp
  exact ⟨x, hI.put (tik11_nodup p d now rdy st qu wn pn ex _) 11 ho hd _ _ _ rfl (.inr (rfl)) (by intro e he; cases he; exact hz ▸ (by decide : (82 : Nat) < 201)) hI.wd⟩
theorem tik11_12 (t0 : Array Value) (hz : t0.size = 201) (Q : Exit → Act → World → Prop) : RStepX Tryz.prog R_tik11 (lay_tik11 p d now rdy st qu wn pn ex) t0 (fun x L => X x (L 8) (L 14)) Q 12 := by
  intro x L o a w ho hL hd hI
  have d0 : L 0 = true := dep_spec ho hd (k := 0) (by kernel_rfl)
  have f72 : a.tmps[72]? = some (.pointer (some ⟨p, 0, none⟩)) := hI.at 0 rfl d0
  have h : R_tik11[12]? = some R_tik11[12] := rfl
  conv at h => rhs; arg 1; whnf
  simp only [wpOp, h]
  rw [if_pos (by rfl)]
  left
  go_simp
  exact ⟨x, hI.put (tik11_nodup p d now rdy st qu wn pn ex _) 12 ho hd _ _ _ rfl (.inr (rfl)) (by intro e he; cases he; exact hz ▸ (by decide : (83 : Nat) < 201)) hI.wd⟩
theorem tik11_13 (t0 : Array Value) (hz : t0.size = 201) (Q : Exit → Act → World → Prop) : RStepX Tryz.prog R_tik11 (lay_tik11 p d now rdy st qu wn pn ex) t0 (fun x L => X x (L 8) (L 14)) Q 13 := by
  intro x L o a w ho hL hd hI
  have d12 : L 12 = true := dep_spec ho hd (k := 12) (by kernel_rfl)
  have f83 : a.tmps[83]? = some (.pointer (some ⟨p, 0, none⟩)) := hI.at 12 rfl d12
  have h : R_tik11[13]? = some R_tik11[13] := rfl
  conv at h => rhs; arg 1; whnf
  simp only [wpOp, h]
  rw [if_pos (by rfl)]
  left
  go_simp
  exact ⟨x, hI.put (tik11_nodup p d now rdy st qu wn pn ex _) 13 ho hd _ _ _ rfl (.inr (rfl)) (by intro e he; cases he; exact hz ▸ (by decide : (84 : Nat) < 201)) hI.wd⟩
theorem tik11_14 (S14 : ∀ (x : (Unit)) (w : World), X x true false w → ∃ u0 u1 u2 u3 u4 u5, w.cell? ⟨p, 23, none⟩ = some u0 ∧ w.cell? ⟨p, 24, none⟩ = some u1 ∧ w.cell? ⟨p, 25, none⟩ = some u2 ∧ w.cell? ⟨p, 26, none⟩ = some u3 ∧ w.cell? ⟨p, 27, none⟩ = some u4 ∧ w.cell? ⟨p, 28, none⟩ = some u5 ∧ w.frozen? ⟨p, 23, none⟩ = false ∧ w.frozen? ⟨p, 24, none⟩ = false ∧ w.frozen? ⟨p, 25, none⟩ = false ∧ w.frozen? ⟨p, 26, none⟩ = false ∧ w.frozen? ⟨p, 27, none⟩ = false ∧ w.frozen? ⟨p, 28, none⟩ = false ∧ X x true true ((((((w.setCell ⟨p, 23, none⟩ (.int .i64 now)).setCell ⟨p, 24, none⟩ (.int .i64 st)).setCell ⟨p, 25, none⟩ (.int .i64 qu)).setCell ⟨p, 26, none⟩ (.int .i64 wn)).setCell ⟨p, 27, none⟩ (.bool pn)).setCell ⟨p, 28, none⟩ (.int .i64 ex))) (t0 : Array Value) (hz : t0.size = 201) (Q : Exit → Act → World → Prop) : RStepX Tryz.prog R_tik11 (lay_tik11 p d now rdy st qu wn pn ex) t0 (fun x L => X x (L 8) (L 14)) Q 14 := by
  intro x L o a w ho hL hd hI
  have _ := hz
  have d13 : L 13 = true := dep_spec ho hd (k := 13) (by kernel_rfl)
  have f84 : a.tmps[84]? = some (.pointer (some ⟨p, 23, none⟩)) := hI.at 13 rfl d13
  have d10 : L 10 = true := dep_spec ho hd (k := 10) (by kernel_rfl)
  have f81 : a.tmps[81]? = some (.agg #[.int .i64 now, .int .i64 st, .int .i64 qu, .int .i64 wn, .bool pn, .int .i64 ex]) := hI.at 10 rfl d10
  have y8 : L 8 = true := dep_spec ho hd (k := 8) (by kernel_rfl)
  have z8 : L 8 = true := y8
  have z14 : L 14 = false := hL
  have hw : X x (L 8) (L 14) w := hI.wd
  rw [z8, z14] at hw
  obtain ⟨u0, u1, u2, u3, u4, u5, c0, c1, c2, c3, c4, c5, g0, g1, g2, g3, g4, g5, hx⟩ := S14 x  w hw
  have h : R_tik11[14]? = some R_tik11[14] := rfl
  conv at h => rhs; arg 1; whnf
  simp only [wpOp, h]
  rw [if_pos (by rfl)]
  left
  go_simp
  have hx2 : X x (L 8) true ((((((w.setCell ⟨p, 23, none⟩ (.int .i64 now)).setCell ⟨p, 24, none⟩ (.int .i64 st)).setCell ⟨p, 25, none⟩ (.int .i64 qu)).setCell ⟨p, 26, none⟩ (.int .i64 wn)).setCell ⟨p, 27, none⟩ (.bool pn)).setCell ⟨p, 28, none⟩ (.int .i64 ex)) := by
    rw [z8]
    exact hx
  exact ⟨x, ((hI.rewd (Wd' := fun _ _ => True) (w' := w) trivial).put (w' := w) (tik11_nodup p d now rdy st qu wn pn ex _) 14 ho hd none undef undef rfl (.inl rfl) (by intro e he; cases he) trivial).rewd hx2⟩
theorem tik11_step (M6 : ∀ (x : (Unit)) (w : World), X x false false w → w.cell? ⟨p, 20, none⟩ = some (.int .i64 now)) (C2 : ∀ (x : (Unit)) (w : World), X x false false w → Calls Tryz.prog 35 #[.pointer (some ⟨p, 0, none⟩)] w fun e w' => e = .returned (.pointer (some ⟨d, 0, none⟩)) ∧ X x false false w') (C8 : ∀ (x : (Unit)) (w : World), X x false false w → Calls Tryz.prog 63 #[.pointer (some ⟨d, 0, none⟩), .int .i64 now, .int .i64 rdy] w fun e w' => e = .returned (.tuple #[.agg #[.int .i64 now, .int .i64 st, .int .i64 qu, .int .i64 wn, .bool pn, .int .i64 ex], .int .i64 0]) ∧ X x true false w') (S14 : ∀ (x : (Unit)) (w : World), X x true false w → ∃ u0 u1 u2 u3 u4 u5, w.cell? ⟨p, 23, none⟩ = some u0 ∧ w.cell? ⟨p, 24, none⟩ = some u1 ∧ w.cell? ⟨p, 25, none⟩ = some u2 ∧ w.cell? ⟨p, 26, none⟩ = some u3 ∧ w.cell? ⟨p, 27, none⟩ = some u4 ∧ w.cell? ⟨p, 28, none⟩ = some u5 ∧ w.frozen? ⟨p, 23, none⟩ = false ∧ w.frozen? ⟨p, 24, none⟩ = false ∧ w.frozen? ⟨p, 25, none⟩ = false ∧ w.frozen? ⟨p, 26, none⟩ = false ∧ w.frozen? ⟨p, 27, none⟩ = false ∧ w.frozen? ⟨p, 28, none⟩ = false ∧ X x true true ((((((w.setCell ⟨p, 23, none⟩ (.int .i64 now)).setCell ⟨p, 24, none⟩ (.int .i64 st)).setCell ⟨p, 25, none⟩ (.int .i64 qu)).setCell ⟨p, 26, none⟩ (.int .i64 wn)).setCell ⟨p, 27, none⟩ (.bool pn)).setCell ⟨p, 28, none⟩ (.int .i64 ex))) (t0 : Array Value) (hz : t0.size = 201) (ht0 : t0[0]? = some (.pointer (some ⟨p, 0, none⟩))) (ht4 : t0[4]? = some (.int .i64 rdy)) (Q : Exit → Act → World → Prop) : ∀ i, i < 15 → RStepX Tryz.prog R_tik11 (lay_tik11 p d now rdy st qu wn pn ex) t0 (fun x L => X x (L 8) (L 14)) Q i
  | 0, _ => tik11_0 p d now rdy st qu wn pn ex X   t0 hz ht0 Q
  | 1, _ => tik11_1 p d now rdy st qu wn pn ex X   t0 hz ht0 Q
  | 2, _ => tik11_2 p d now rdy st qu wn pn ex X  C2 t0 hz  Q
  | 3, _ => tik11_3 p d now rdy st qu wn pn ex X   t0 hz ht0 Q
  | 4, _ => tik11_4 p d now rdy st qu wn pn ex X   t0 hz  Q
  | 5, _ => tik11_5 p d now rdy st qu wn pn ex X   t0 hz  Q
  | 6, _ => tik11_6 p d now rdy st qu wn pn ex X  M6 t0 hz  Q
  | 7, _ => tik11_7 p d now rdy st qu wn pn ex X   t0 hz ht4 Q
  | 8, _ => tik11_8 p d now rdy st qu wn pn ex X  C8 t0 hz  Q
  | 9, _ => tik11_9 p d now rdy st qu wn pn ex X   t0 hz  Q
  | 10, _ => tik11_10 p d now rdy st qu wn pn ex X   t0 hz  Q
  | 11, _ => tik11_11 p d now rdy st qu wn pn ex X   t0 hz  Q
  | 12, _ => tik11_12 p d now rdy st qu wn pn ex X   t0 hz  Q
  | 13, _ => tik11_13 p d now rdy st qu wn pn ex X   t0 hz  Q
  | 14, _ => tik11_14 p d now rdy st qu wn pn ex X  S14 t0 hz  Q
  | k + 15, h => absurd h (by omega)
end
theorem tik11_at {ops : Array Oper} (ho : ops = R_tik11) (p : Nat) (d : Nat) (now : Int) (rdy : Int) (st : Int) (qu : Int) (wn : Int) (pn : Bool) (ex : Int) (X : (Unit) → Bool → Bool → World → Prop)  (M6 : ∀ (x : (Unit)) (w : World), X x false false w → w.cell? ⟨p, 20, none⟩ = some (.int .i64 now)) (C2 : ∀ (x : (Unit)) (w : World), X x false false w → Calls Tryz.prog 35 #[.pointer (some ⟨p, 0, none⟩)] w fun e w' => e = .returned (.pointer (some ⟨d, 0, none⟩)) ∧ X x false false w') (C8 : ∀ (x : (Unit)) (w : World), X x false false w → Calls Tryz.prog 63 #[.pointer (some ⟨d, 0, none⟩), .int .i64 now, .int .i64 rdy] w fun e w' => e = .returned (.tuple #[.agg #[.int .i64 now, .int .i64 st, .int .i64 qu, .int .i64 wn, .bool pn, .int .i64 ex], .int .i64 0]) ∧ X x true false w') (S14 : ∀ (x : (Unit)) (w : World), X x true false w → ∃ u0 u1 u2 u3 u4 u5, w.cell? ⟨p, 23, none⟩ = some u0 ∧ w.cell? ⟨p, 24, none⟩ = some u1 ∧ w.cell? ⟨p, 25, none⟩ = some u2 ∧ w.cell? ⟨p, 26, none⟩ = some u3 ∧ w.cell? ⟨p, 27, none⟩ = some u4 ∧ w.cell? ⟨p, 28, none⟩ = some u5 ∧ w.frozen? ⟨p, 23, none⟩ = false ∧ w.frozen? ⟨p, 24, none⟩ = false ∧ w.frozen? ⟨p, 25, none⟩ = false ∧ w.frozen? ⟨p, 26, none⟩ = false ∧ w.frozen? ⟨p, 27, none⟩ = false ∧ w.frozen? ⟨p, 28, none⟩ = false ∧ X x true true ((((((w.setCell ⟨p, 23, none⟩ (.int .i64 now)).setCell ⟨p, 24, none⟩ (.int .i64 st)).setCell ⟨p, 25, none⟩ (.int .i64 qu)).setCell ⟨p, 26, none⟩ (.int .i64 wn)).setCell ⟨p, 27, none⟩ (.bool pn)).setCell ⟨p, 28, none⟩ (.int .i64 ex))) (t0 : Array Value) (hz : t0.size = 201) (ht0 : t0[0]? = some (.pointer (some ⟨p, 0, none⟩))) (ht4 : t0[4]? = some (.int .i64 rdy)) {id : Nat} {Q : Exit → Act → World → Prop} {w : World} (x0 : (Unit)) (start : X x0 false false w.drew) (fin : ∀ x w', X x true true w' → Q .normal ⟨puts ((lay_tik11 p d now rdy st qu wn pn ex) x) t0, []⟩ w') : (Code.region id ops true).wp Tryz.prog Q ⟨t0, []⟩ w := by
  subst ho
  refine wp_regX (Wd := (fun x L => X x (L 8) (L 14))) 15 rfl tik11_acyc tik11_size (fun _ => rfl) (tik11_nodup p d now rdy st qu wn pn ex) (fun x => by rw [tik11_dsts, hz]; rfl) x0 start (fun i hi => tik11_step p d now rdy st qu wn pn ex X  M6 C2 C8 S14 t0 hz ht0 ht4 Q i hi) fun x L w' hl hw => fin x w' ?_
  have hw : X x (L 8) (L 14) w' := hw
  rw [hl 8 (by omega), hl 14 (by omega)] at hw
  exact hw
noncomputable def R_tik12 : Array Oper := reg Tryz.f31 12
theorem tik12_size : R_tik12.size = 15 := by kernel_rfl
theorem tik12_acyc : acycB R_tik12 = true := by kernel_rfl
/-- What the operations lay. -/
noncomputable def lay_tik12 (bu : Int) (ini : Int) (li : Int) (rd : Int) (p : Nat) (rdy : Int) (ex : Int) (px : Bool) (_ : Unit) : Lay := [(some 85, .pointer (some ⟨p, 0, none⟩)),
  (some 86, .pointer (some ⟨p, 0, none⟩)),
  (some 87, .pointer (some ⟨p, 0, none⟩)),
  (some 88, .pointer (some ⟨p, 0, none⟩)),
  (some 89, .agg (ca bu ini li rd)),
  (some 90, .int .i64 rdy),
  (some 91, .pointer (some ⟨p, 0, none⟩)),
  (some 92, .pointer (some ⟨p, 0, none⟩)),
  (some 93, .pointer (some ⟨p, 23, none⟩)),
  (some 94, .pointer (some ⟨p, 28, none⟩)),
  (some 95, .int .i64 ex),
  (some 96, .bool px),
  (some 97, .pointer (some ⟨p, 0, none⟩)),
  (some 98, .pointer (some ⟨p, 30, none⟩)),
  (none, undef)]
theorem tik12_dsts (bu : Int) (ini : Int) (li : Int) (rd : Int) (p : Nat) (rdy : Int) (ex : Int) (px : Bool) (x : Unit) : dsts (lay_tik12 bu ini li rd p rdy ex px x) = [85, 86, 87, 88, 89, 90, 91, 92, 93, 94, 95, 96, 97, 98] := rfl
theorem tik12_nodup (bu : Int) (ini : Int) (li : Int) (rd : Int) (p : Nat) (rdy : Int) (ex : Int) (px : Bool) (x : Unit) : (dsts (lay_tik12 bu ini li rd p rdy ex px x)).Nodup := by rw [tik12_dsts]; decide
section
variable (bu : Int) (ini : Int) (li : Int) (rd : Int) (p : Nat) (rdy : Int) (ex : Int) (px : Bool) (X : (Unit) → Bool → World → Prop)
theorem tik12_0 (t0 : Array Value) (hz : t0.size = 201) (ht0 : t0[0]? = some (.pointer (some ⟨p, 0, none⟩))) (Q : Exit → Act → World → Prop) : RStepX Tryz.prog R_tik12 (lay_tik12 bu ini li rd p rdy ex px) t0 (fun x L => X x (L 14)) Q 0 := by
  intro x L o a w ho hL hd hI
  have f0 : a.tmps[0]? = some (.pointer (some ⟨p, 0, none⟩)) := hI.from ht0 rfl
  have h : R_tik12[0]? = some R_tik12[0] := rfl
  conv at h => rhs; arg 1; whnf
  simp only [wpOp, h]
  rw [if_pos (by rfl)]
  left
  go_simp
  exact ⟨x, hI.put (tik12_nodup bu ini li rd p rdy ex px _) 0 ho hd _ _ _ rfl (.inr (rfl)) (by intro e he; cases he; exact hz ▸ (by decide : (85 : Nat) < 201)) hI.wd⟩
theorem tik12_1 (t0 : Array Value) (hz : t0.size = 201) (ht0 : t0[0]? = some (.pointer (some ⟨p, 0, none⟩))) (Q : Exit → Act → World → Prop) : RStepX Tryz.prog R_tik12 (lay_tik12 bu ini li rd p rdy ex px) t0 (fun x L => X x (L 14)) Q 1 := by
  intro x L o a w ho hL hd hI
  have f0 : a.tmps[0]? = some (.pointer (some ⟨p, 0, none⟩)) := hI.from ht0 rfl
  have h : R_tik12[1]? = some R_tik12[1] := rfl
  conv at h => rhs; arg 1; whnf
  simp only [wpOp, h]
  rw [if_pos (by rfl)]
  left
  go_simp
  exact ⟨x, hI.put (tik12_nodup bu ini li rd p rdy ex px _) 1 ho hd _ _ _ rfl (.inr (rfl)) (by intro e he; cases he; exact hz ▸ (by decide : (86 : Nat) < 201)) hI.wd⟩
theorem tik12_2 (t0 : Array Value) (hz : t0.size = 201) (Q : Exit → Act → World → Prop) : RStepX Tryz.prog R_tik12 (lay_tik12 bu ini li rd p rdy ex px) t0 (fun x L => X x (L 14)) Q 2 := by
  intro x L o a w ho hL hd hI
  have d1 : L 1 = true := dep_spec ho hd (k := 1) (by kernel_rfl)
  have f86 : a.tmps[86]? = some (.pointer (some ⟨p, 0, none⟩)) := hI.at 1 rfl d1
  have h : R_tik12[2]? = some R_tik12[2] := rfl
  conv at h => rhs; arg 1; whnf
  simp only [wpOp, h]
  rw [if_pos (by rfl)]
  left
  go_simp
  exact ⟨x, hI.put (tik12_nodup bu ini li rd p rdy ex px _) 2 ho hd _ _ _ rfl (.inr (rfl)) (by intro e he; cases he; exact hz ▸ (by decide : (87 : Nat) < 201)) hI.wd⟩
theorem tik12_3 (t0 : Array Value) (hz : t0.size = 201) (Q : Exit → Act → World → Prop) : RStepX Tryz.prog R_tik12 (lay_tik12 bu ini li rd p rdy ex px) t0 (fun x L => X x (L 14)) Q 3 := by
  intro x L o a w ho hL hd hI
  have d2 : L 2 = true := dep_spec ho hd (k := 2) (by kernel_rfl)
  have f87 : a.tmps[87]? = some (.pointer (some ⟨p, 0, none⟩)) := hI.at 2 rfl d2
  have h : R_tik12[3]? = some R_tik12[3] := rfl
  conv at h => rhs; arg 1; whnf
  simp only [wpOp, h]
  rw [if_pos (by rfl)]
  left
  go_simp
  exact ⟨x, hI.put (tik12_nodup bu ini li rd p rdy ex px _) 3 ho hd _ _ _ rfl (.inr (rfl)) (by intro e he; cases he; exact hz ▸ (by decide : (88 : Nat) < 201)) hI.wd⟩
theorem tik12_4 (M4 : ∀ (x : (Unit)) (w : World), X x false w → rowOf w p (0) 20 = some (.agg (ca bu ini li rd))) (t0 : Array Value) (hz : t0.size = 201) (Q : Exit → Act → World → Prop) : RStepX Tryz.prog R_tik12 (lay_tik12 bu ini li rd p rdy ex px) t0 (fun x L => X x (L 14)) Q 4 := by
  intro x L o a w ho hL hd hI
  have d3 : L 3 = true := dep_spec ho hd (k := 3) (by kernel_rfl)
  have f88 : a.tmps[88]? = some (.pointer (some ⟨p, 0, none⟩)) := hI.at 3 rfl d3
  have z14 : L 14 = false := by
    cases q14 : L 14 with
    | false => rfl
    | true =>
      have q4 : L 4 = true := hI.tr q14 (by kernel_rfl)
      rw [hL] at q4; cases q4
  have hw : X x (L 14) w := hI.wd
  rw [z14] at hw
  have hv := M4 x  w hw
  have h : R_tik12[4]? = some R_tik12[4] := rfl
  conv at h => rhs; arg 1; whnf
  simp only [wpOp, h]
  rw [if_pos (by rfl)]
  left
  go_simp
  exact ⟨x, hI.put (tik12_nodup bu ini li rd p rdy ex px _) 4 ho hd _ _ _ rfl (.inr (rfl)) (by intro e he; cases he; exact hz ▸ (by decide : (89 : Nat) < 201)) hI.wd⟩
theorem tik12_5 (t0 : Array Value) (hz : t0.size = 201) (ht4 : t0[4]? = some (.int .i64 rdy)) (Q : Exit → Act → World → Prop) : RStepX Tryz.prog R_tik12 (lay_tik12 bu ini li rd p rdy ex px) t0 (fun x L => X x (L 14)) Q 5 := by
  intro x L o a w ho hL hd hI
  have f4 : a.tmps[4]? = some (.int .i64 rdy) := hI.from ht4 rfl
  have h : R_tik12[5]? = some R_tik12[5] := rfl
  conv at h => rhs; arg 1; whnf
  simp only [wpOp, h]
  rw [if_pos (by rfl)]
  left
  go_simp
  exact ⟨x, hI.put (tik12_nodup bu ini li rd p rdy ex px _) 5 ho hd _ _ _ rfl (.inr (rfl)) (by intro e he; cases he; exact hz ▸ (by decide : (90 : Nat) < 201)) hI.wd⟩
theorem tik12_6 (t0 : Array Value) (hz : t0.size = 201) (ht0 : t0[0]? = some (.pointer (some ⟨p, 0, none⟩))) (Q : Exit → Act → World → Prop) : RStepX Tryz.prog R_tik12 (lay_tik12 bu ini li rd p rdy ex px) t0 (fun x L => X x (L 14)) Q 6 := by
  intro x L o a w ho hL hd hI
  have f0 : a.tmps[0]? = some (.pointer (some ⟨p, 0, none⟩)) := hI.from ht0 rfl
  have h : R_tik12[6]? = some R_tik12[6] := rfl
  conv at h => rhs; arg 1; whnf
  simp only [wpOp, h]
  rw [if_pos (by rfl)]
  left
  go_simp
  exact ⟨x, hI.put (tik12_nodup bu ini li rd p rdy ex px _) 6 ho hd _ _ _ rfl (.inr (rfl)) (by intro e he; cases he; exact hz ▸ (by decide : (91 : Nat) < 201)) hI.wd⟩
theorem tik12_7 (t0 : Array Value) (hz : t0.size = 201) (Q : Exit → Act → World → Prop) : RStepX Tryz.prog R_tik12 (lay_tik12 bu ini li rd p rdy ex px) t0 (fun x L => X x (L 14)) Q 7 := by
  intro x L o a w ho hL hd hI
  have d6 : L 6 = true := dep_spec ho hd (k := 6) (by kernel_rfl)
  have f91 : a.tmps[91]? = some (.pointer (some ⟨p, 0, none⟩)) := hI.at 6 rfl d6
  have h : R_tik12[7]? = some R_tik12[7] := rfl
  conv at h => rhs; arg 1; whnf
  simp only [wpOp, h]
  rw [if_pos (by rfl)]
  left
  go_simp
  exact ⟨x, hI.put (tik12_nodup bu ini li rd p rdy ex px _) 7 ho hd _ _ _ rfl (.inr (rfl)) (by intro e he; cases he; exact hz ▸ (by decide : (92 : Nat) < 201)) hI.wd⟩
theorem tik12_8 (t0 : Array Value) (hz : t0.size = 201) (Q : Exit → Act → World → Prop) : RStepX Tryz.prog R_tik12 (lay_tik12 bu ini li rd p rdy ex px) t0 (fun x L => X x (L 14)) Q 8 := by
  intro x L o a w ho hL hd hI
  have d7 : L 7 = true := dep_spec ho hd (k := 7) (by kernel_rfl)
  have f92 : a.tmps[92]? = some (.pointer (some ⟨p, 0, none⟩)) := hI.at 7 rfl d7
  have h : R_tik12[8]? = some R_tik12[8] := rfl
  conv at h => rhs; arg 1; whnf
  simp only [wpOp, h]
  rw [if_pos (by rfl)]
  left
  go_simp
  exact ⟨x, hI.put (tik12_nodup bu ini li rd p rdy ex px _) 8 ho hd _ _ _ rfl (.inr (rfl)) (by intro e he; cases he; exact hz ▸ (by decide : (93 : Nat) < 201)) hI.wd⟩
theorem tik12_9 (t0 : Array Value) (hz : t0.size = 201) (Q : Exit → Act → World → Prop) : RStepX Tryz.prog R_tik12 (lay_tik12 bu ini li rd p rdy ex px) t0 (fun x L => X x (L 14)) Q 9 := by
  intro x L o a w ho hL hd hI
  have d8 : L 8 = true := dep_spec ho hd (k := 8) (by kernel_rfl)
  have f93 : a.tmps[93]? = some (.pointer (some ⟨p, 23, none⟩)) := hI.at 8 rfl d8
  have h : R_tik12[9]? = some R_tik12[9] := rfl
  conv at h => rhs; arg 1; whnf
  simp only [wpOp, h]
  rw [if_pos (by rfl)]
  left
  go_simp
  exact ⟨x, hI.put (tik12_nodup bu ini li rd p rdy ex px _) 9 ho hd _ _ _ rfl (.inr (rfl)) (by intro e he; cases he; exact hz ▸ (by decide : (94 : Nat) < 201)) hI.wd⟩
theorem tik12_10 (M10 : ∀ (x : (Unit)) (w : World), X x false w → w.cell? ⟨p, 28, none⟩ = some (.int .i64 ex)) (t0 : Array Value) (hz : t0.size = 201) (Q : Exit → Act → World → Prop) : RStepX Tryz.prog R_tik12 (lay_tik12 bu ini li rd p rdy ex px) t0 (fun x L => X x (L 14)) Q 10 := by
  intro x L o a w ho hL hd hI
  have d9 : L 9 = true := dep_spec ho hd (k := 9) (by kernel_rfl)
  have f94 : a.tmps[94]? = some (.pointer (some ⟨p, 28, none⟩)) := hI.at 9 rfl d9
  have z14 : L 14 = false := by
    cases q14 : L 14 with
    | false => rfl
    | true =>
      have q10 : L 10 = true := hI.tr q14 (by kernel_rfl)
      rw [hL] at q10; cases q10
  have hw : X x (L 14) w := hI.wd
  rw [z14] at hw
  have hv := M10 x  w hw
  have h : R_tik12[10]? = some R_tik12[10] := rfl
  conv at h => rhs; arg 1; whnf
  simp only [wpOp, h]
  rw [if_pos (by rfl)]
  left
  go_simp
  exact ⟨x, hI.put (tik12_nodup bu ini li rd p rdy ex px _) 10 ho hd _ _ _ rfl (.inr (rfl)) (by intro e he; cases he; exact hz ▸ (by decide : (95 : Nat) < 201)) hI.wd⟩
theorem tik12_11 (C11 : ∀ (x : (Unit)) (w : World), X x false w → Calls Tryz.prog 24 #[.agg (ca bu ini li rd), .int .i64 rdy, .int .i64 ex] w fun e w' => e = .returned (.bool px) ∧ X x false w') (t0 : Array Value) (hz : t0.size = 201) (Q : Exit → Act → World → Prop) : RStepX Tryz.prog R_tik12 (lay_tik12 bu ini li rd p rdy ex px) t0 (fun x L => X x (L 14)) Q 11 := by
  intro x L o a w ho hL hd hI
  have d4 : L 4 = true := dep_spec ho hd (k := 4) (by kernel_rfl)
  have f89 : a.tmps[89]? = some (.agg (ca bu ini li rd)) := hI.at 4 rfl d4
  have d5 : L 5 = true := dep_spec ho hd (k := 5) (by kernel_rfl)
  have f90 : a.tmps[90]? = some (.int .i64 rdy) := hI.at 5 rfl d5
  have d10 : L 10 = true := dep_spec ho hd (k := 10) (by kernel_rfl)
  have f95 : a.tmps[95]? = some (.int .i64 ex) := hI.at 10 rfl d10
  have z14 : L 14 = false := by
    cases q14 : L 14 with
    | false => rfl
    | true =>
      have q11 : L 11 = true := hI.tr q14 (by kernel_rfl)
      rw [hL] at q11; cases q11
  have hw : X x (L 14) w := hI.wd
  rw [z14] at hw
  have h : R_tik12[11]? = some R_tik12[11] := rfl
  conv at h => rhs; arg 1; whnf
  simp only [wpOp, h]
  rw [if_pos (by rfl)]
  left
  go_simp
  refine (C11 x  w hw).mono ?_
  rintro e w' ⟨rfl, hx⟩
  have hx2 : X x (L 14) w' := by
    rw [z14]
    exact hx
  exact ⟨x, ((hI.rewd (Wd' := fun _ _ => True) (w' := w) trivial).put (w' := w) (tik12_nodup bu ini li rd p rdy ex px _) 11 ho hd _ _ _ rfl (.inr (rfl)) (by intro e he; cases he; exact hz ▸ (by decide : (96 : Nat) < 201)) trivial).rewd hx2⟩
theorem tik12_12 (t0 : Array Value) (hz : t0.size = 201) (Q : Exit → Act → World → Prop) : RStepX Tryz.prog R_tik12 (lay_tik12 bu ini li rd p rdy ex px) t0 (fun x L => X x (L 14)) Q 12 := by
  intro x L o a w ho hL hd hI
  have d0 : L 0 = true := dep_spec ho hd (k := 0) (by kernel_rfl)
  have f85 : a.tmps[85]? = some (.pointer (some ⟨p, 0, none⟩)) := hI.at 0 rfl d0
  have h : R_tik12[12]? = some R_tik12[12] := rfl
  conv at h => rhs; arg 1; whnf
  simp only [wpOp, h]
  rw [if_pos (by rfl)]
  left
  go_simp
  exact ⟨x, hI.put (tik12_nodup bu ini li rd p rdy ex px _) 12 ho hd _ _ _ rfl (.inr (rfl)) (by intro e he; cases he; exact hz ▸ (by decide : (97 : Nat) < 201)) hI.wd⟩
theorem tik12_13 (t0 : Array Value) (hz : t0.size = 201) (Q : Exit → Act → World → Prop) : RStepX Tryz.prog R_tik12 (lay_tik12 bu ini li rd p rdy ex px) t0 (fun x L => X x (L 14)) Q 13 := by
  intro x L o a w ho hL hd hI
  have d12 : L 12 = true := dep_spec ho hd (k := 12) (by kernel_rfl)
  have f97 : a.tmps[97]? = some (.pointer (some ⟨p, 0, none⟩)) := hI.at 12 rfl d12
  have h : R_tik12[13]? = some R_tik12[13] := rfl
  conv at h => rhs; arg 1; whnf
  simp only [wpOp, h]
  rw [if_pos (by rfl)]
  left
  go_simp
  exact ⟨x, hI.put (tik12_nodup bu ini li rd p rdy ex px _) 13 ho hd _ _ _ rfl (.inr (rfl)) (by intro e he; cases he; exact hz ▸ (by decide : (98 : Nat) < 201)) hI.wd⟩
theorem tik12_14 (S14 : ∀ (x : (Unit)) (w : World), X x false w → ∃ u0, w.cell? ⟨p, 30, none⟩ = some u0 ∧ w.frozen? ⟨p, 30, none⟩ = false ∧ X x true (w.setCell ⟨p, 30, none⟩ (.bool px))) (t0 : Array Value) (hz : t0.size = 201) (Q : Exit → Act → World → Prop) : RStepX Tryz.prog R_tik12 (lay_tik12 bu ini li rd p rdy ex px) t0 (fun x L => X x (L 14)) Q 14 := by
  intro x L o a w ho hL hd hI
  have _ := hz
  have d13 : L 13 = true := dep_spec ho hd (k := 13) (by kernel_rfl)
  have f98 : a.tmps[98]? = some (.pointer (some ⟨p, 30, none⟩)) := hI.at 13 rfl d13
  have d11 : L 11 = true := dep_spec ho hd (k := 11) (by kernel_rfl)
  have f96 : a.tmps[96]? = some (.bool px) := hI.at 11 rfl d11
  have z14 : L 14 = false := hL
  have hw : X x (L 14) w := hI.wd
  rw [z14] at hw
  obtain ⟨u0, c0, g0, hx⟩ := S14 x  w hw
  have h : R_tik12[14]? = some R_tik12[14] := rfl
  conv at h => rhs; arg 1; whnf
  simp only [wpOp, h]
  rw [if_pos (by rfl)]
  left
  go_simp
  have hx2 : X x true (w.setCell ⟨p, 30, none⟩ (.bool px)) := by
    exact hx
  exact ⟨x, ((hI.rewd (Wd' := fun _ _ => True) (w' := w) trivial).put (w' := w) (tik12_nodup bu ini li rd p rdy ex px _) 14 ho hd none undef undef rfl (.inl rfl) (by intro e he; cases he) trivial).rewd hx2⟩
theorem tik12_step (M4 : ∀ (x : (Unit)) (w : World), X x false w → rowOf w p (0) 20 = some (.agg (ca bu ini li rd))) (M10 : ∀ (x : (Unit)) (w : World), X x false w → w.cell? ⟨p, 28, none⟩ = some (.int .i64 ex)) (C11 : ∀ (x : (Unit)) (w : World), X x false w → Calls Tryz.prog 24 #[.agg (ca bu ini li rd), .int .i64 rdy, .int .i64 ex] w fun e w' => e = .returned (.bool px) ∧ X x false w') (S14 : ∀ (x : (Unit)) (w : World), X x false w → ∃ u0, w.cell? ⟨p, 30, none⟩ = some u0 ∧ w.frozen? ⟨p, 30, none⟩ = false ∧ X x true (w.setCell ⟨p, 30, none⟩ (.bool px))) (t0 : Array Value) (hz : t0.size = 201) (ht0 : t0[0]? = some (.pointer (some ⟨p, 0, none⟩))) (ht4 : t0[4]? = some (.int .i64 rdy)) (Q : Exit → Act → World → Prop) : ∀ i, i < 15 → RStepX Tryz.prog R_tik12 (lay_tik12 bu ini li rd p rdy ex px) t0 (fun x L => X x (L 14)) Q i
  | 0, _ => tik12_0 bu ini li rd p rdy ex px X   t0 hz ht0 Q
  | 1, _ => tik12_1 bu ini li rd p rdy ex px X   t0 hz ht0 Q
  | 2, _ => tik12_2 bu ini li rd p rdy ex px X   t0 hz  Q
  | 3, _ => tik12_3 bu ini li rd p rdy ex px X   t0 hz  Q
  | 4, _ => tik12_4 bu ini li rd p rdy ex px X  M4 t0 hz  Q
  | 5, _ => tik12_5 bu ini li rd p rdy ex px X   t0 hz ht4 Q
  | 6, _ => tik12_6 bu ini li rd p rdy ex px X   t0 hz ht0 Q
  | 7, _ => tik12_7 bu ini li rd p rdy ex px X   t0 hz  Q
  | 8, _ => tik12_8 bu ini li rd p rdy ex px X   t0 hz  Q
  | 9, _ => tik12_9 bu ini li rd p rdy ex px X   t0 hz  Q
  | 10, _ => tik12_10 bu ini li rd p rdy ex px X  M10 t0 hz  Q
  | 11, _ => tik12_11 bu ini li rd p rdy ex px X  C11 t0 hz  Q
  | 12, _ => tik12_12 bu ini li rd p rdy ex px X   t0 hz  Q
  | 13, _ => tik12_13 bu ini li rd p rdy ex px X   t0 hz  Q
  | 14, _ => tik12_14 bu ini li rd p rdy ex px X  S14 t0 hz  Q
  | k + 15, h => absurd h (by omega)
end
theorem tik12_at {ops : Array Oper} (ho : ops = R_tik12) (bu : Int) (ini : Int) (li : Int) (rd : Int) (p : Nat) (rdy : Int) (ex : Int) (px : Bool) (X : (Unit) → Bool → World → Prop)  (M4 : ∀ (x : (Unit)) (w : World), X x false w → rowOf w p (0) 20 = some (.agg (ca bu ini li rd))) (M10 : ∀ (x : (Unit)) (w : World), X x false w → w.cell? ⟨p, 28, none⟩ = some (.int .i64 ex)) (C11 : ∀ (x : (Unit)) (w : World), X x false w → Calls Tryz.prog 24 #[.agg (ca bu ini li rd), .int .i64 rdy, .int .i64 ex] w fun e w' => e = .returned (.bool px) ∧ X x false w') (S14 : ∀ (x : (Unit)) (w : World), X x false w → ∃ u0, w.cell? ⟨p, 30, none⟩ = some u0 ∧ w.frozen? ⟨p, 30, none⟩ = false ∧ X x true (w.setCell ⟨p, 30, none⟩ (.bool px))) (t0 : Array Value) (hz : t0.size = 201) (ht0 : t0[0]? = some (.pointer (some ⟨p, 0, none⟩))) (ht4 : t0[4]? = some (.int .i64 rdy)) {id : Nat} {Q : Exit → Act → World → Prop} {w : World} (x0 : (Unit)) (start : X x0 false w.drew) (fin : ∀ x w', X x true w' → Q .normal ⟨puts ((lay_tik12 bu ini li rd p rdy ex px) x) t0, []⟩ w') : (Code.region id ops true).wp Tryz.prog Q ⟨t0, []⟩ w := by
  subst ho
  refine wp_regX (Wd := (fun x L => X x (L 14))) 15 rfl tik12_acyc tik12_size (fun _ => rfl) (tik12_nodup bu ini li rd p rdy ex px) (fun x => by rw [tik12_dsts, hz]; rfl) x0 start (fun i hi => tik12_step bu ini li rd p rdy ex px X  M4 M10 C11 S14 t0 hz ht0 ht4 Q i hi) fun x L w' hl hw => fin x w' ?_
  have hw : X x (L 14) w' := hw
  rw [hl 14 (by omega)] at hw
  exact hw
noncomputable def R_tik13 : Array Oper := reg Tryz.f31 13
theorem tik13_size : R_tik13.size = 17 := by kernel_rfl
theorem tik13_acyc : acycB R_tik13 = true := by kernel_rfl
/-- What the operations lay. -/
noncomputable def lay_tik13 (p : Nat) (now : Int) (zs : Int) (px : Bool) (zt : Int) (_ : Unit) : Lay := [(some 99, .pointer (some ⟨p, 0, none⟩)),
  (some 100, .pointer (some ⟨p, 0, none⟩)),
  (some 101, .pointer (some ⟨p, 0, none⟩)),
  (some 102, .pointer (some ⟨p, 31, none⟩)),
  (some 103, .agg #[.int .i64 zs]),
  (some 104, .pointer (some ⟨p, 0, none⟩)),
  (some 105, .pointer (some ⟨p, 0, none⟩)),
  (some 106, .pointer (some ⟨p, 20, none⟩)),
  (some 107, .int .i64 now),
  (some 108, .pointer (some ⟨p, 0, none⟩)),
  (some 109, .pointer (some ⟨p, 0, none⟩)),
  (some 110, .pointer (some ⟨p, 30, none⟩)),
  (some 111, .bool px),
  (some 112, .agg #[.int .i64 zt]),
  (some 113, .pointer (some ⟨p, 0, none⟩)),
  (some 114, .pointer (some ⟨p, 31, none⟩)),
  (none, undef)]
theorem tik13_dsts (p : Nat) (now : Int) (zs : Int) (px : Bool) (zt : Int) (x : Unit) : dsts (lay_tik13 p now zs px zt x) = [99, 100, 101, 102, 103, 104, 105, 106, 107, 108, 109, 110, 111, 112, 113, 114] := rfl
theorem tik13_nodup (p : Nat) (now : Int) (zs : Int) (px : Bool) (zt : Int) (x : Unit) : (dsts (lay_tik13 p now zs px zt x)).Nodup := by rw [tik13_dsts]; decide
section
variable (p : Nat) (now : Int) (zs : Int) (px : Bool) (zt : Int) (X : (Unit) → Bool → World → Prop)
theorem tik13_0 (t0 : Array Value) (hz : t0.size = 201) (ht0 : t0[0]? = some (.pointer (some ⟨p, 0, none⟩))) (Q : Exit → Act → World → Prop) : RStepX Tryz.prog R_tik13 (lay_tik13 p now zs px zt) t0 (fun x L => X x (L 16)) Q 0 := by
  intro x L o a w ho hL hd hI
  have f0 : a.tmps[0]? = some (.pointer (some ⟨p, 0, none⟩)) := hI.from ht0 rfl
  have h : R_tik13[0]? = some R_tik13[0] := rfl
  conv at h => rhs; arg 1; whnf
  simp only [wpOp, h]
  rw [if_pos (by rfl)]
  left
  go_simp
  exact ⟨x, hI.put (tik13_nodup p now zs px zt _) 0 ho hd _ _ _ rfl (.inr (rfl)) (by intro e he; cases he; exact hz ▸ (by decide : (99 : Nat) < 201)) hI.wd⟩
theorem tik13_1 (t0 : Array Value) (hz : t0.size = 201) (ht0 : t0[0]? = some (.pointer (some ⟨p, 0, none⟩))) (Q : Exit → Act → World → Prop) : RStepX Tryz.prog R_tik13 (lay_tik13 p now zs px zt) t0 (fun x L => X x (L 16)) Q 1 := by
  intro x L o a w ho hL hd hI
  have f0 : a.tmps[0]? = some (.pointer (some ⟨p, 0, none⟩)) := hI.from ht0 rfl
  have h : R_tik13[1]? = some R_tik13[1] := rfl
  conv at h => rhs; arg 1; whnf
  simp only [wpOp, h]
  rw [if_pos (by rfl)]
  left
  go_simp
  exact ⟨x, hI.put (tik13_nodup p now zs px zt _) 1 ho hd _ _ _ rfl (.inr (rfl)) (by intro e he; cases he; exact hz ▸ (by decide : (100 : Nat) < 201)) hI.wd⟩
theorem tik13_2 (t0 : Array Value) (hz : t0.size = 201) (Q : Exit → Act → World → Prop) : RStepX Tryz.prog R_tik13 (lay_tik13 p now zs px zt) t0 (fun x L => X x (L 16)) Q 2 := by
  intro x L o a w ho hL hd hI
  have d1 : L 1 = true := dep_spec ho hd (k := 1) (by kernel_rfl)
  have f100 : a.tmps[100]? = some (.pointer (some ⟨p, 0, none⟩)) := hI.at 1 rfl d1
  have h : R_tik13[2]? = some R_tik13[2] := rfl
  conv at h => rhs; arg 1; whnf
  simp only [wpOp, h]
  rw [if_pos (by rfl)]
  left
  go_simp
  exact ⟨x, hI.put (tik13_nodup p now zs px zt _) 2 ho hd _ _ _ rfl (.inr (rfl)) (by intro e he; cases he; exact hz ▸ (by decide : (101 : Nat) < 201)) hI.wd⟩
theorem tik13_3 (t0 : Array Value) (hz : t0.size = 201) (Q : Exit → Act → World → Prop) : RStepX Tryz.prog R_tik13 (lay_tik13 p now zs px zt) t0 (fun x L => X x (L 16)) Q 3 := by
  intro x L o a w ho hL hd hI
  have d2 : L 2 = true := dep_spec ho hd (k := 2) (by kernel_rfl)
  have f101 : a.tmps[101]? = some (.pointer (some ⟨p, 0, none⟩)) := hI.at 2 rfl d2
  have h : R_tik13[3]? = some R_tik13[3] := rfl
  conv at h => rhs; arg 1; whnf
  simp only [wpOp, h]
  rw [if_pos (by rfl)]
  left
  go_simp
  exact ⟨x, hI.put (tik13_nodup p now zs px zt _) 3 ho hd _ _ _ rfl (.inr (rfl)) (by intro e he; cases he; exact hz ▸ (by decide : (102 : Nat) < 201)) hI.wd⟩
theorem tik13_4 (M4 : ∀ (x : (Unit)) (w : World), X x false w → w.cell? ⟨p, 31, none⟩ = some (.int .i64 zs)) (t0 : Array Value) (hz : t0.size = 201) (Q : Exit → Act → World → Prop) : RStepX Tryz.prog R_tik13 (lay_tik13 p now zs px zt) t0 (fun x L => X x (L 16)) Q 4 := by
  intro x L o a w ho hL hd hI
  have d3 : L 3 = true := dep_spec ho hd (k := 3) (by kernel_rfl)
  have f102 : a.tmps[102]? = some (.pointer (some ⟨p, 31, none⟩)) := hI.at 3 rfl d3
  have z16 : L 16 = false := by
    cases q16 : L 16 with
    | false => rfl
    | true =>
      have q4 : L 4 = true := hI.tr q16 (by kernel_rfl)
      rw [hL] at q4; cases q4
  have hw : X x (L 16) w := hI.wd
  rw [z16] at hw
  have hv := M4 x  w hw
  have h : R_tik13[4]? = some R_tik13[4] := rfl
  conv at h => rhs; arg 1; whnf
  simp only [wpOp, h]
  rw [if_pos (by rfl)]
  left
  go_simp
  exact ⟨x, hI.put (tik13_nodup p now zs px zt _) 4 ho hd _ _ _ rfl (.inr (rfl)) (by intro e he; cases he; exact hz ▸ (by decide : (103 : Nat) < 201)) hI.wd⟩
theorem tik13_5 (t0 : Array Value) (hz : t0.size = 201) (ht0 : t0[0]? = some (.pointer (some ⟨p, 0, none⟩))) (Q : Exit → Act → World → Prop) : RStepX Tryz.prog R_tik13 (lay_tik13 p now zs px zt) t0 (fun x L => X x (L 16)) Q 5 := by
  intro x L o a w ho hL hd hI
  have f0 : a.tmps[0]? = some (.pointer (some ⟨p, 0, none⟩)) := hI.from ht0 rfl
  have h : R_tik13[5]? = some R_tik13[5] := rfl
  conv at h => rhs; arg 1; whnf
  simp only [wpOp, h]
  rw [if_pos (by rfl)]
  left
  go_simp
  exact ⟨x, hI.put (tik13_nodup p now zs px zt _) 5 ho hd _ _ _ rfl (.inr (rfl)) (by intro e he; cases he; exact hz ▸ (by decide : (104 : Nat) < 201)) hI.wd⟩
theorem tik13_6 (t0 : Array Value) (hz : t0.size = 201) (Q : Exit → Act → World → Prop) : RStepX Tryz.prog R_tik13 (lay_tik13 p now zs px zt) t0 (fun x L => X x (L 16)) Q 6 := by
  intro x L o a w ho hL hd hI
  have d5 : L 5 = true := dep_spec ho hd (k := 5) (by kernel_rfl)
  have f104 : a.tmps[104]? = some (.pointer (some ⟨p, 0, none⟩)) := hI.at 5 rfl d5
  have h : R_tik13[6]? = some R_tik13[6] := rfl
  conv at h => rhs; arg 1; whnf
  simp only [wpOp, h]
  rw [if_pos (by rfl)]
  left
  go_simp
  exact ⟨x, hI.put (tik13_nodup p now zs px zt _) 6 ho hd _ _ _ rfl (.inr (rfl)) (by intro e he; cases he; exact hz ▸ (by decide : (105 : Nat) < 201)) hI.wd⟩
theorem tik13_7 (t0 : Array Value) (hz : t0.size = 201) (Q : Exit → Act → World → Prop) : RStepX Tryz.prog R_tik13 (lay_tik13 p now zs px zt) t0 (fun x L => X x (L 16)) Q 7 := by
  intro x L o a w ho hL hd hI
  have d6 : L 6 = true := dep_spec ho hd (k := 6) (by kernel_rfl)
  have f105 : a.tmps[105]? = some (.pointer (some ⟨p, 0, none⟩)) := hI.at 6 rfl d6
  have h : R_tik13[7]? = some R_tik13[7] := rfl
  conv at h => rhs; arg 1; whnf
  simp only [wpOp, h]
  rw [if_pos (by rfl)]
  left
  go_simp
  exact ⟨x, hI.put (tik13_nodup p now zs px zt _) 7 ho hd _ _ _ rfl (.inr (rfl)) (by intro e he; cases he; exact hz ▸ (by decide : (106 : Nat) < 201)) hI.wd⟩
theorem tik13_8 (M8 : ∀ (x : (Unit)) (w : World), X x false w → w.cell? ⟨p, 20, none⟩ = some (.int .i64 now)) (t0 : Array Value) (hz : t0.size = 201) (Q : Exit → Act → World → Prop) : RStepX Tryz.prog R_tik13 (lay_tik13 p now zs px zt) t0 (fun x L => X x (L 16)) Q 8 := by
  intro x L o a w ho hL hd hI
  have d7 : L 7 = true := dep_spec ho hd (k := 7) (by kernel_rfl)
  have f106 : a.tmps[106]? = some (.pointer (some ⟨p, 20, none⟩)) := hI.at 7 rfl d7
  have z16 : L 16 = false := by
    cases q16 : L 16 with
    | false => rfl
    | true =>
      have q8 : L 8 = true := hI.tr q16 (by kernel_rfl)
      rw [hL] at q8; cases q8
  have hw : X x (L 16) w := hI.wd
  rw [z16] at hw
  have hv := M8 x  w hw
  have h : R_tik13[8]? = some R_tik13[8] := rfl
  conv at h => rhs; arg 1; whnf
  simp only [wpOp, h]
  rw [if_pos (by rfl)]
  left
  go_simp
  exact ⟨x, hI.put (tik13_nodup p now zs px zt _) 8 ho hd _ _ _ rfl (.inr (rfl)) (by intro e he; cases he; exact hz ▸ (by decide : (107 : Nat) < 201)) hI.wd⟩
theorem tik13_9 (t0 : Array Value) (hz : t0.size = 201) (ht0 : t0[0]? = some (.pointer (some ⟨p, 0, none⟩))) (Q : Exit → Act → World → Prop) : RStepX Tryz.prog R_tik13 (lay_tik13 p now zs px zt) t0 (fun x L => X x (L 16)) Q 9 := by
  intro x L o a w ho hL hd hI
  have f0 : a.tmps[0]? = some (.pointer (some ⟨p, 0, none⟩)) := hI.from ht0 rfl
  have h : R_tik13[9]? = some R_tik13[9] := rfl
  conv at h => rhs; arg 1; whnf
  simp only [wpOp, h]
  rw [if_pos (by rfl)]
  left
  go_simp
  exact ⟨x, hI.put (tik13_nodup p now zs px zt _) 9 ho hd _ _ _ rfl (.inr (rfl)) (by intro e he; cases he; exact hz ▸ (by decide : (108 : Nat) < 201)) hI.wd⟩
theorem tik13_10 (t0 : Array Value) (hz : t0.size = 201) (Q : Exit → Act → World → Prop) : RStepX Tryz.prog R_tik13 (lay_tik13 p now zs px zt) t0 (fun x L => X x (L 16)) Q 10 := by
  intro x L o a w ho hL hd hI
  have d9 : L 9 = true := dep_spec ho hd (k := 9) (by kernel_rfl)
  have f108 : a.tmps[108]? = some (.pointer (some ⟨p, 0, none⟩)) := hI.at 9 rfl d9
  have h : R_tik13[10]? = some R_tik13[10] := rfl
  conv at h => rhs; arg 1; whnf
  simp only [wpOp, h]
  rw [if_pos (by rfl)]
  left
  go_simp
  exact ⟨x, hI.put (tik13_nodup p now zs px zt _) 10 ho hd _ _ _ rfl (.inr (rfl)) (by intro e he; cases he; exact hz ▸ (by decide : (109 : Nat) < 201)) hI.wd⟩
theorem tik13_11 (t0 : Array Value) (hz : t0.size = 201) (Q : Exit → Act → World → Prop) : RStepX Tryz.prog R_tik13 (lay_tik13 p now zs px zt) t0 (fun x L => X x (L 16)) Q 11 := by
  intro x L o a w ho hL hd hI
  have d10 : L 10 = true := dep_spec ho hd (k := 10) (by kernel_rfl)
  have f109 : a.tmps[109]? = some (.pointer (some ⟨p, 0, none⟩)) := hI.at 10 rfl d10
  have h : R_tik13[11]? = some R_tik13[11] := rfl
  conv at h => rhs; arg 1; whnf
  simp only [wpOp, h]
  rw [if_pos (by rfl)]
  left
  go_simp
  exact ⟨x, hI.put (tik13_nodup p now zs px zt _) 11 ho hd _ _ _ rfl (.inr (rfl)) (by intro e he; cases he; exact hz ▸ (by decide : (110 : Nat) < 201)) hI.wd⟩
theorem tik13_12 (M12 : ∀ (x : (Unit)) (w : World), X x false w → w.cell? ⟨p, 30, none⟩ = some (.bool px)) (t0 : Array Value) (hz : t0.size = 201) (Q : Exit → Act → World → Prop) : RStepX Tryz.prog R_tik13 (lay_tik13 p now zs px zt) t0 (fun x L => X x (L 16)) Q 12 := by
  intro x L o a w ho hL hd hI
  have d11 : L 11 = true := dep_spec ho hd (k := 11) (by kernel_rfl)
  have f110 : a.tmps[110]? = some (.pointer (some ⟨p, 30, none⟩)) := hI.at 11 rfl d11
  have z16 : L 16 = false := by
    cases q16 : L 16 with
    | false => rfl
    | true =>
      have q12 : L 12 = true := hI.tr q16 (by kernel_rfl)
      rw [hL] at q12; cases q12
  have hw : X x (L 16) w := hI.wd
  rw [z16] at hw
  have hv := M12 x  w hw
  have h : R_tik13[12]? = some R_tik13[12] := rfl
  conv at h => rhs; arg 1; whnf
  simp only [wpOp, h]
  rw [if_pos (by rfl)]
  left
  go_simp
  exact ⟨x, hI.put (tik13_nodup p now zs px zt _) 12 ho hd _ _ _ rfl (.inr (rfl)) (by intro e he; cases he; exact hz ▸ (by decide : (111 : Nat) < 201)) hI.wd⟩
theorem tik13_13 (C13 : ∀ (x : (Unit)) (w : World), X x false w → Calls Tryz.prog 64 #[.agg #[.int .i64 zs], .int .i64 now, .bool px] w fun e w' => e = .returned (.agg #[.int .i64 zt]) ∧ X x false w') (t0 : Array Value) (hz : t0.size = 201) (Q : Exit → Act → World → Prop) : RStepX Tryz.prog R_tik13 (lay_tik13 p now zs px zt) t0 (fun x L => X x (L 16)) Q 13 := by
  intro x L o a w ho hL hd hI
  have d4 : L 4 = true := dep_spec ho hd (k := 4) (by kernel_rfl)
  have f103 : a.tmps[103]? = some (.agg #[.int .i64 zs]) := hI.at 4 rfl d4
  have d8 : L 8 = true := dep_spec ho hd (k := 8) (by kernel_rfl)
  have f107 : a.tmps[107]? = some (.int .i64 now) := hI.at 8 rfl d8
  have d12 : L 12 = true := dep_spec ho hd (k := 12) (by kernel_rfl)
  have f111 : a.tmps[111]? = some (.bool px) := hI.at 12 rfl d12
  have z16 : L 16 = false := by
    cases q16 : L 16 with
    | false => rfl
    | true =>
      have q13 : L 13 = true := hI.tr q16 (by kernel_rfl)
      rw [hL] at q13; cases q13
  have hw : X x (L 16) w := hI.wd
  rw [z16] at hw
  have h : R_tik13[13]? = some R_tik13[13] := rfl
  conv at h => rhs; arg 1; whnf
  simp only [wpOp, h]
  rw [if_pos (by rfl)]
  left
  go_simp
  refine (C13 x  w hw).mono ?_
  rintro e w' ⟨rfl, hx⟩
  have hx2 : X x (L 16) w' := by
    rw [z16]
    exact hx
  exact ⟨x, ((hI.rewd (Wd' := fun _ _ => True) (w' := w) trivial).put (w' := w) (tik13_nodup p now zs px zt _) 13 ho hd _ _ _ rfl (.inr (rfl)) (by intro e he; cases he; exact hz ▸ (by decide : (112 : Nat) < 201)) trivial).rewd hx2⟩
theorem tik13_14 (t0 : Array Value) (hz : t0.size = 201) (Q : Exit → Act → World → Prop) : RStepX Tryz.prog R_tik13 (lay_tik13 p now zs px zt) t0 (fun x L => X x (L 16)) Q 14 := by
  intro x L o a w ho hL hd hI
  have d0 : L 0 = true := dep_spec ho hd (k := 0) (by kernel_rfl)
  have f99 : a.tmps[99]? = some (.pointer (some ⟨p, 0, none⟩)) := hI.at 0 rfl d0
  have h : R_tik13[14]? = some R_tik13[14] := rfl
  conv at h => rhs; arg 1; whnf
  simp only [wpOp, h]
  rw [if_pos (by rfl)]
  left
  go_simp
  exact ⟨x, hI.put (tik13_nodup p now zs px zt _) 14 ho hd _ _ _ rfl (.inr (rfl)) (by intro e he; cases he; exact hz ▸ (by decide : (113 : Nat) < 201)) hI.wd⟩
theorem tik13_15 (t0 : Array Value) (hz : t0.size = 201) (Q : Exit → Act → World → Prop) : RStepX Tryz.prog R_tik13 (lay_tik13 p now zs px zt) t0 (fun x L => X x (L 16)) Q 15 := by
  intro x L o a w ho hL hd hI
  have d14 : L 14 = true := dep_spec ho hd (k := 14) (by kernel_rfl)
  have f113 : a.tmps[113]? = some (.pointer (some ⟨p, 0, none⟩)) := hI.at 14 rfl d14
  have h : R_tik13[15]? = some R_tik13[15] := rfl
  conv at h => rhs; arg 1; whnf
  simp only [wpOp, h]
  rw [if_pos (by rfl)]
  left
  go_simp
  exact ⟨x, hI.put (tik13_nodup p now zs px zt _) 15 ho hd _ _ _ rfl (.inr (rfl)) (by intro e he; cases he; exact hz ▸ (by decide : (114 : Nat) < 201)) hI.wd⟩
theorem tik13_16 (S16 : ∀ (x : (Unit)) (w : World), X x false w → ∃ u0, w.cell? ⟨p, 31, none⟩ = some u0 ∧ w.frozen? ⟨p, 31, none⟩ = false ∧ X x true (w.setCell ⟨p, 31, none⟩ (.int .i64 zt))) (t0 : Array Value) (hz : t0.size = 201) (Q : Exit → Act → World → Prop) : RStepX Tryz.prog R_tik13 (lay_tik13 p now zs px zt) t0 (fun x L => X x (L 16)) Q 16 := by
  intro x L o a w ho hL hd hI
  have _ := hz
  have d15 : L 15 = true := dep_spec ho hd (k := 15) (by kernel_rfl)
  have f114 : a.tmps[114]? = some (.pointer (some ⟨p, 31, none⟩)) := hI.at 15 rfl d15
  have d13 : L 13 = true := dep_spec ho hd (k := 13) (by kernel_rfl)
  have f112 : a.tmps[112]? = some (.agg #[.int .i64 zt]) := hI.at 13 rfl d13
  have z16 : L 16 = false := hL
  have hw : X x (L 16) w := hI.wd
  rw [z16] at hw
  obtain ⟨u0, c0, g0, hx⟩ := S16 x  w hw
  have h : R_tik13[16]? = some R_tik13[16] := rfl
  conv at h => rhs; arg 1; whnf
  simp only [wpOp, h]
  rw [if_pos (by rfl)]
  left
  go_simp
  have hx2 : X x true (w.setCell ⟨p, 31, none⟩ (.int .i64 zt)) := by
    exact hx
  exact ⟨x, ((hI.rewd (Wd' := fun _ _ => True) (w' := w) trivial).put (w' := w) (tik13_nodup p now zs px zt _) 16 ho hd none undef undef rfl (.inl rfl) (by intro e he; cases he) trivial).rewd hx2⟩
theorem tik13_step (M4 : ∀ (x : (Unit)) (w : World), X x false w → w.cell? ⟨p, 31, none⟩ = some (.int .i64 zs)) (M8 : ∀ (x : (Unit)) (w : World), X x false w → w.cell? ⟨p, 20, none⟩ = some (.int .i64 now)) (M12 : ∀ (x : (Unit)) (w : World), X x false w → w.cell? ⟨p, 30, none⟩ = some (.bool px)) (C13 : ∀ (x : (Unit)) (w : World), X x false w → Calls Tryz.prog 64 #[.agg #[.int .i64 zs], .int .i64 now, .bool px] w fun e w' => e = .returned (.agg #[.int .i64 zt]) ∧ X x false w') (S16 : ∀ (x : (Unit)) (w : World), X x false w → ∃ u0, w.cell? ⟨p, 31, none⟩ = some u0 ∧ w.frozen? ⟨p, 31, none⟩ = false ∧ X x true (w.setCell ⟨p, 31, none⟩ (.int .i64 zt))) (t0 : Array Value) (hz : t0.size = 201) (ht0 : t0[0]? = some (.pointer (some ⟨p, 0, none⟩))) (Q : Exit → Act → World → Prop) : ∀ i, i < 17 → RStepX Tryz.prog R_tik13 (lay_tik13 p now zs px zt) t0 (fun x L => X x (L 16)) Q i
  | 0, _ => tik13_0 p now zs px zt X   t0 hz ht0 Q
  | 1, _ => tik13_1 p now zs px zt X   t0 hz ht0 Q
  | 2, _ => tik13_2 p now zs px zt X   t0 hz  Q
  | 3, _ => tik13_3 p now zs px zt X   t0 hz  Q
  | 4, _ => tik13_4 p now zs px zt X  M4 t0 hz  Q
  | 5, _ => tik13_5 p now zs px zt X   t0 hz ht0 Q
  | 6, _ => tik13_6 p now zs px zt X   t0 hz  Q
  | 7, _ => tik13_7 p now zs px zt X   t0 hz  Q
  | 8, _ => tik13_8 p now zs px zt X  M8 t0 hz  Q
  | 9, _ => tik13_9 p now zs px zt X   t0 hz ht0 Q
  | 10, _ => tik13_10 p now zs px zt X   t0 hz  Q
  | 11, _ => tik13_11 p now zs px zt X   t0 hz  Q
  | 12, _ => tik13_12 p now zs px zt X  M12 t0 hz  Q
  | 13, _ => tik13_13 p now zs px zt X  C13 t0 hz  Q
  | 14, _ => tik13_14 p now zs px zt X   t0 hz  Q
  | 15, _ => tik13_15 p now zs px zt X   t0 hz  Q
  | 16, _ => tik13_16 p now zs px zt X  S16 t0 hz  Q
  | k + 17, h => absurd h (by omega)
end
theorem tik13_at {ops : Array Oper} (ho : ops = R_tik13) (p : Nat) (now : Int) (zs : Int) (px : Bool) (zt : Int) (X : (Unit) → Bool → World → Prop)  (M4 : ∀ (x : (Unit)) (w : World), X x false w → w.cell? ⟨p, 31, none⟩ = some (.int .i64 zs)) (M8 : ∀ (x : (Unit)) (w : World), X x false w → w.cell? ⟨p, 20, none⟩ = some (.int .i64 now)) (M12 : ∀ (x : (Unit)) (w : World), X x false w → w.cell? ⟨p, 30, none⟩ = some (.bool px)) (C13 : ∀ (x : (Unit)) (w : World), X x false w → Calls Tryz.prog 64 #[.agg #[.int .i64 zs], .int .i64 now, .bool px] w fun e w' => e = .returned (.agg #[.int .i64 zt]) ∧ X x false w') (S16 : ∀ (x : (Unit)) (w : World), X x false w → ∃ u0, w.cell? ⟨p, 31, none⟩ = some u0 ∧ w.frozen? ⟨p, 31, none⟩ = false ∧ X x true (w.setCell ⟨p, 31, none⟩ (.int .i64 zt))) (t0 : Array Value) (hz : t0.size = 201) (ht0 : t0[0]? = some (.pointer (some ⟨p, 0, none⟩))) {id : Nat} {Q : Exit → Act → World → Prop} {w : World} (x0 : (Unit)) (start : X x0 false w.drew) (fin : ∀ x w', X x true w' → Q .normal ⟨puts ((lay_tik13 p now zs px zt) x) t0, []⟩ w') : (Code.region id ops true).wp Tryz.prog Q ⟨t0, []⟩ w := by
  subst ho
  refine wp_regX (Wd := (fun x L => X x (L 16))) 17 rfl tik13_acyc tik13_size (fun _ => rfl) (tik13_nodup p now zs px zt) (fun x => by rw [tik13_dsts, hz]; rfl) x0 start (fun i hi => tik13_step p now zs px zt X  M4 M8 M12 C13 S16 t0 hz ht0 Q i hi) fun x L w' hl hw => fin x w' ?_
  have hw : X x (L 16) w' := hw
  rw [hl 16 (by omega)] at hw
  exact hw
end Go.Proofs.YtdgphoemjeakaaaGreatDoor.Y
