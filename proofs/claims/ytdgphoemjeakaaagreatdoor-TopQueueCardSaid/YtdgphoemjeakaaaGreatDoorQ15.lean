/- The whole service: regions that draw their order. -/
import Derived.Test.YtdgphoemjeakaaaGreatDoorQ11
import Derived.Test.YtdgphoemjeakaaaGreatDoorQ09
/-! The whole service: regions that draw their order. -/
namespace Go.Proofs.YtdgphoemjeakaaaGreatDoor.Y
open Go.RowKit Go.Proofs.YtdgphoemjeakaaaGreatDoor.K Go.Proofs.YtdgphoemjeakaaaGreatDoor.P Go.Proofs.YtdgphoemjeakaaaGreatDoor.W Go.Proofs.YtdgphoemjeakaaaGreatDoor.Rg
set_option maxRecDepth 100000

theorem info161 : (Tryz.prog.info? 161).map (fun i => (i.zero, i.size, i.bytes)) = some (some (.agg #[.int .i64 0, .int .i64 0, .int .i64 0]), 3, 24) := by kernel_rfl
noncomputable def R_scr3 : Array Oper := reg Tryz.f61 3
theorem scr3_size : R_scr3.size = 12 := by kernel_rfl
theorem scr3_acyc : acycB R_scr3 = true := by kernel_rfl
/-- What the operations lay. -/
noncomputable def lay_scr3 (p : Nat) (vi : Option Addr) (ni : Nat) (ci : Nat) (now : Int) (m : Nat) (x : (Option Addr × Nat)) : Lay := [(some 15, .slice (vi) (ni) (ci)),
  (some 16, .pointer (some ⟨p, 0, none⟩)),
  (some 17, .pointer (some ⟨p, 0, none⟩)),
  (some 18, .pointer (some ⟨p, 0, none⟩)),
  (some 19, .pointer (some ⟨p, 19, none⟩)),
  (some 20, .int .i64 0),
  (some 21, .pointer (some ⟨p, 0, none⟩)),
  (some 22, .pointer (some ⟨p, 0, none⟩)),
  (some 23, .pointer (some ⟨p, 20, none⟩)),
  (some 24, .int .i64 now),
  (some 25, .slice (x.1) (m) (x.2)),
  (some 5, .slice (x.1) (m) (x.2))]
theorem scr3_dsts (p : Nat) (vi : Option Addr) (ni : Nat) (ci : Nat) (now : Int) (m : Nat) (x : (Option Addr × Nat)) : dsts (lay_scr3 p vi ni ci now m x) = [15, 16, 17, 18, 19, 20, 21, 22, 23, 24, 25, 5] := rfl
theorem scr3_nodup (p : Nat) (vi : Option Addr) (ni : Nat) (ci : Nat) (now : Int) (m : Nat) (x : (Option Addr × Nat)) : (dsts (lay_scr3 p vi ni ci now m x)).Nodup := by rw [scr3_dsts]; decide
theorem scr3_swap10 (p : Nat) (vi : Option Addr) (ni : Nat) (ci : Nat) (now : Int) (m : Nat) (x : (Option Addr × Nat)) (y : (Option Addr × Nat)) (j : Nat) (e10 : ¬ j = 10) (e11 : ¬ j = 11) : ((lay_scr3 p vi ni ci now m) y)[j]? = ((lay_scr3 p vi ni ci now m) x)[j]? := by
  have h : (lay_scr3 p vi ni ci now m) y = ((((lay_scr3 p vi ni ci now m) x).set 10 (some 25, .slice (y.1) (m) (y.2))).set 11 (some 5, .slice (y.1) (m) (y.2))) := rfl
  rw [h, List.getElem?_set_ne (fun h => e11 h.symm), List.getElem?_set_ne (fun h => e10 h.symm)]
section
variable (p : Nat) (vi : Option Addr) (ni : Nat) (ci : Nat) (now : Int) (m : Nat) (X : ((Option Addr × Nat)) → Bool → World → Prop)
theorem scr3_0 (t0 : Array Value) (hz : t0.size = 79) (ht3 : t0[3]? = some (.slice (vi) (ni) (ci))) (Q : Exit → Act → World → Prop) : RStepX Tryz.prog R_scr3 (lay_scr3 p vi ni ci now m) t0 (fun x L => X x (L 10)) Q 0 := by
  intro x L o a w ho hL hd hI
  have f3 : a.tmps[3]? = some (.slice (vi) (ni) (ci)) := hI.from ht3 rfl
  have h : R_scr3[0]? = some R_scr3[0] := rfl
  conv at h => rhs; arg 1; whnf
  simp only [wpOp, h]
  rw [if_pos (by rfl)]
  left
  go_simp
  exact ⟨x, hI.put (scr3_nodup p vi ni ci now m _) 0 ho hd _ _ _ rfl (.inr (rfl)) (by intro e he; cases he; exact hz ▸ (by decide : (15 : Nat) < 79)) hI.wd⟩
theorem scr3_1 (t0 : Array Value) (hz : t0.size = 79) (ht0 : t0[0]? = some (.pointer (some ⟨p, 0, none⟩))) (Q : Exit → Act → World → Prop) : RStepX Tryz.prog R_scr3 (lay_scr3 p vi ni ci now m) t0 (fun x L => X x (L 10)) Q 1 := by
  intro x L o a w ho hL hd hI
  have f0 : a.tmps[0]? = some (.pointer (some ⟨p, 0, none⟩)) := hI.from ht0 rfl
  have h : R_scr3[1]? = some R_scr3[1] := rfl
  conv at h => rhs; arg 1; whnf
  simp only [wpOp, h]
  rw [if_pos (by rfl)]
  left
  go_simp
  exact ⟨x, hI.put (scr3_nodup p vi ni ci now m _) 1 ho hd _ _ _ rfl (.inr (rfl)) (by intro e he; cases he; exact hz ▸ (by decide : (16 : Nat) < 79)) hI.wd⟩
theorem scr3_2 (t0 : Array Value) (hz : t0.size = 79) (Q : Exit → Act → World → Prop) : RStepX Tryz.prog R_scr3 (lay_scr3 p vi ni ci now m) t0 (fun x L => X x (L 10)) Q 2 := by
  intro x L o a w ho hL hd hI
  have d1 : L 1 = true := dep_spec ho hd (k := 1) (by kernel_rfl)
  have f16 : a.tmps[16]? = some (.pointer (some ⟨p, 0, none⟩)) := hI.at 1 rfl d1
  have h : R_scr3[2]? = some R_scr3[2] := rfl
  conv at h => rhs; arg 1; whnf
  simp only [wpOp, h]
  rw [if_pos (by rfl)]
  left
  go_simp
  exact ⟨x, hI.put (scr3_nodup p vi ni ci now m _) 2 ho hd _ _ _ rfl (.inr (rfl)) (by intro e he; cases he; exact hz ▸ (by decide : (17 : Nat) < 79)) hI.wd⟩
theorem scr3_3 (t0 : Array Value) (hz : t0.size = 79) (Q : Exit → Act → World → Prop) : RStepX Tryz.prog R_scr3 (lay_scr3 p vi ni ci now m) t0 (fun x L => X x (L 10)) Q 3 := by
  intro x L o a w ho hL hd hI
  have d2 : L 2 = true := dep_spec ho hd (k := 2) (by kernel_rfl)
  have f17 : a.tmps[17]? = some (.pointer (some ⟨p, 0, none⟩)) := hI.at 2 rfl d2
  have h : R_scr3[3]? = some R_scr3[3] := rfl
  conv at h => rhs; arg 1; whnf
  simp only [wpOp, h]
  rw [if_pos (by rfl)]
  left
  go_simp
  exact ⟨x, hI.put (scr3_nodup p vi ni ci now m _) 3 ho hd _ _ _ rfl (.inr (rfl)) (by intro e he; cases he; exact hz ▸ (by decide : (18 : Nat) < 79)) hI.wd⟩
theorem scr3_4 (t0 : Array Value) (hz : t0.size = 79) (Q : Exit → Act → World → Prop) : RStepX Tryz.prog R_scr3 (lay_scr3 p vi ni ci now m) t0 (fun x L => X x (L 10)) Q 4 := by
  intro x L o a w ho hL hd hI
  have d3 : L 3 = true := dep_spec ho hd (k := 3) (by kernel_rfl)
  have f18 : a.tmps[18]? = some (.pointer (some ⟨p, 0, none⟩)) := hI.at 3 rfl d3
  have h : R_scr3[4]? = some R_scr3[4] := rfl
  conv at h => rhs; arg 1; whnf
  simp only [wpOp, h]
  rw [if_pos (by rfl)]
  left
  go_simp
  exact ⟨x, hI.put (scr3_nodup p vi ni ci now m _) 4 ho hd _ _ _ rfl (.inr (rfl)) (by intro e he; cases he; exact hz ▸ (by decide : (19 : Nat) < 79)) hI.wd⟩
theorem scr3_5 (M5 : ∀ (x : ((Option Addr × Nat))) (w : World), X x false w → w.cell? ⟨p, 19, none⟩ = some (.int .i64 0)) (t0 : Array Value) (hz : t0.size = 79) (Q : Exit → Act → World → Prop) : RStepX Tryz.prog R_scr3 (lay_scr3 p vi ni ci now m) t0 (fun x L => X x (L 10)) Q 5 := by
  intro x L o a w ho hL hd hI
  have d4 : L 4 = true := dep_spec ho hd (k := 4) (by kernel_rfl)
  have f19 : a.tmps[19]? = some (.pointer (some ⟨p, 19, none⟩)) := hI.at 4 rfl d4
  have z10 : L 10 = false := by
    cases q10 : L 10 with
    | false => rfl
    | true =>
      have q5 : L 5 = true := hI.tr q10 (by kernel_rfl)
      rw [hL] at q5; cases q5
  have hw : X x (L 10) w := hI.wd
  rw [z10] at hw
  have hv := M5 x  w hw
  have h : R_scr3[5]? = some R_scr3[5] := rfl
  conv at h => rhs; arg 1; whnf
  simp only [wpOp, h]
  rw [if_pos (by rfl)]
  left
  go_simp
  exact ⟨x, hI.put (scr3_nodup p vi ni ci now m _) 5 ho hd _ _ _ rfl (.inr (rfl)) (by intro e he; cases he; exact hz ▸ (by decide : (20 : Nat) < 79)) hI.wd⟩
theorem scr3_6 (t0 : Array Value) (hz : t0.size = 79) (ht0 : t0[0]? = some (.pointer (some ⟨p, 0, none⟩))) (Q : Exit → Act → World → Prop) : RStepX Tryz.prog R_scr3 (lay_scr3 p vi ni ci now m) t0 (fun x L => X x (L 10)) Q 6 := by
  intro x L o a w ho hL hd hI
  have f0 : a.tmps[0]? = some (.pointer (some ⟨p, 0, none⟩)) := hI.from ht0 rfl
  have h : R_scr3[6]? = some R_scr3[6] := rfl
  conv at h => rhs; arg 1; whnf
  simp only [wpOp, h]
  rw [if_pos (by rfl)]
  left
  go_simp
  exact ⟨x, hI.put (scr3_nodup p vi ni ci now m _) 6 ho hd _ _ _ rfl (.inr (rfl)) (by intro e he; cases he; exact hz ▸ (by decide : (21 : Nat) < 79)) hI.wd⟩
theorem scr3_7 (t0 : Array Value) (hz : t0.size = 79) (Q : Exit → Act → World → Prop) : RStepX Tryz.prog R_scr3 (lay_scr3 p vi ni ci now m) t0 (fun x L => X x (L 10)) Q 7 := by
  intro x L o a w ho hL hd hI
  have d6 : L 6 = true := dep_spec ho hd (k := 6) (by kernel_rfl)
  have f21 : a.tmps[21]? = some (.pointer (some ⟨p, 0, none⟩)) := hI.at 6 rfl d6
  have h : R_scr3[7]? = some R_scr3[7] := rfl
  conv at h => rhs; arg 1; whnf
  simp only [wpOp, h]
  rw [if_pos (by rfl)]
  left
  go_simp
  exact ⟨x, hI.put (scr3_nodup p vi ni ci now m _) 7 ho hd _ _ _ rfl (.inr (rfl)) (by intro e he; cases he; exact hz ▸ (by decide : (22 : Nat) < 79)) hI.wd⟩
theorem scr3_8 (t0 : Array Value) (hz : t0.size = 79) (Q : Exit → Act → World → Prop) : RStepX Tryz.prog R_scr3 (lay_scr3 p vi ni ci now m) t0 (fun x L => X x (L 10)) Q 8 := by
  intro x L o a w ho hL hd hI
  have d7 : L 7 = true := dep_spec ho hd (k := 7) (by kernel_rfl)
  have f22 : a.tmps[22]? = some (.pointer (some ⟨p, 0, none⟩)) := hI.at 7 rfl d7
  have h : R_scr3[8]? = some R_scr3[8] := rfl
  conv at h => rhs; arg 1; whnf
  simp only [wpOp, h]
  rw [if_pos (by rfl)]
  left
  go_simp
  exact ⟨x, hI.put (scr3_nodup p vi ni ci now m _) 8 ho hd _ _ _ rfl (.inr (rfl)) (by intro e he; cases he; exact hz ▸ (by decide : (23 : Nat) < 79)) hI.wd⟩
theorem scr3_9 (M9 : ∀ (x : ((Option Addr × Nat))) (w : World), X x false w → w.cell? ⟨p, 20, none⟩ = some (.int .i64 now)) (t0 : Array Value) (hz : t0.size = 79) (Q : Exit → Act → World → Prop) : RStepX Tryz.prog R_scr3 (lay_scr3 p vi ni ci now m) t0 (fun x L => X x (L 10)) Q 9 := by
  intro x L o a w ho hL hd hI
  have d8 : L 8 = true := dep_spec ho hd (k := 8) (by kernel_rfl)
  have f23 : a.tmps[23]? = some (.pointer (some ⟨p, 20, none⟩)) := hI.at 8 rfl d8
  have z10 : L 10 = false := by
    cases q10 : L 10 with
    | false => rfl
    | true =>
      have q9 : L 9 = true := hI.tr q10 (by kernel_rfl)
      rw [hL] at q9; cases q9
  have hw : X x (L 10) w := hI.wd
  rw [z10] at hw
  have hv := M9 x  w hw
  have h : R_scr3[9]? = some R_scr3[9] := rfl
  conv at h => rhs; arg 1; whnf
  simp only [wpOp, h]
  rw [if_pos (by rfl)]
  left
  go_simp
  exact ⟨x, hI.put (scr3_nodup p vi ni ci now m _) 9 ho hd _ _ _ rfl (.inr (rfl)) (by intro e he; cases he; exact hz ▸ (by decide : (24 : Nat) < 79)) hI.wd⟩
theorem scr3_10 (C10 : ∀ (x : ((Option Addr × Nat))) (w : World), X x false w → Calls Tryz.prog 91 #[.slice (vi) (ni) (ci), .int .i64 0, .int .i64 now] w fun e w' => ∃ y : (Option Addr × Nat), e = .returned (.slice (y.1) (m) (y.2)) ∧ X y true w') (t0 : Array Value) (hz : t0.size = 79) (Q : Exit → Act → World → Prop) : RStepX Tryz.prog R_scr3 (lay_scr3 p vi ni ci now m) t0 (fun x L => X x (L 10)) Q 10 := by
  intro x L o a w ho hL hd hI
  have d0 : L 0 = true := dep_spec ho hd (k := 0) (by kernel_rfl)
  have f15 : a.tmps[15]? = some (.slice (vi) (ni) (ci)) := hI.at 0 rfl d0
  have d5 : L 5 = true := dep_spec ho hd (k := 5) (by kernel_rfl)
  have f20 : a.tmps[20]? = some (.int .i64 0) := hI.at 5 rfl d5
  have d9 : L 9 = true := dep_spec ho hd (k := 9) (by kernel_rfl)
  have f24 : a.tmps[24]? = some (.int .i64 now) := hI.at 9 rfl d9
  have z10 : L 10 = false := hL
  have hw : X x (L 10) w := hI.wd
  rw [z10] at hw
  have h : R_scr3[10]? = some R_scr3[10] := rfl
  conv at h => rhs; arg 1; whnf
  simp only [wpOp, h]
  rw [if_pos (by rfl)]
  left
  go_simp
  refine (C10 x  w hw).mono ?_
  rintro e w' ⟨y, rfl, hx⟩
  have hx2 : X y true w' := by
    exact hx
  have n11 : L 11 = false := by
    cases q11 : L 11 with
    | false => rfl
    | true =>
      have q10 : L 10 = true := hI.tr q11 (by kernel_rfl)
      rw [hL] at q10; cases q10
  have hsw : ∀ j, L j = true → ((lay_scr3 p vi ni ci now m) y)[j]? = ((lay_scr3 p vi ni ci now m) x)[j]? := by
    intro j hj
    by_cases e10 : j = 10
    · subst e10; rw [hL] at hj; cases hj
    by_cases e11 : j = 11
    · subst e11; rw [n11] at hj; cases hj
    exact scr3_swap10 p vi ni ci now m x _ j e10 e11
  have hp := (hI.swap (l' := (lay_scr3 p vi ni ci now m) y) rfl hsw)
  exact ⟨y, (hp.put (w' := w) (scr3_nodup p vi ni ci now m _) 10 ho hd _ _ _ rfl (.inr (rfl)) (by intro e he; cases he; exact hz ▸ (by decide : (25 : Nat) < 79)) trivial).rewd hx2⟩
theorem scr3_11 (t0 : Array Value) (hz : t0.size = 79) (Q : Exit → Act → World → Prop) : RStepX Tryz.prog R_scr3 (lay_scr3 p vi ni ci now m) t0 (fun x L => X x (L 10)) Q 11 := by
  intro x L o a w ho hL hd hI
  have d10 : L 10 = true := dep_spec ho hd (k := 10) (by kernel_rfl)
  have f25 : a.tmps[25]? = some (.slice (x.1) (m) (x.2)) := hI.at 10 rfl d10
  have h : R_scr3[11]? = some R_scr3[11] := rfl
  conv at h => rhs; arg 1; whnf
  simp only [wpOp, h]
  rw [if_pos (by rfl)]
  left
  go_simp
  exact ⟨x, hI.put (scr3_nodup p vi ni ci now m _) 11 ho hd _ _ _ rfl (.inr (rfl)) (by intro e he; cases he; exact hz ▸ (by decide : (5 : Nat) < 79)) hI.wd⟩
theorem scr3_step (M5 : ∀ (x : ((Option Addr × Nat))) (w : World), X x false w → w.cell? ⟨p, 19, none⟩ = some (.int .i64 0)) (M9 : ∀ (x : ((Option Addr × Nat))) (w : World), X x false w → w.cell? ⟨p, 20, none⟩ = some (.int .i64 now)) (C10 : ∀ (x : ((Option Addr × Nat))) (w : World), X x false w → Calls Tryz.prog 91 #[.slice (vi) (ni) (ci), .int .i64 0, .int .i64 now] w fun e w' => ∃ y : (Option Addr × Nat), e = .returned (.slice (y.1) (m) (y.2)) ∧ X y true w') (t0 : Array Value) (hz : t0.size = 79) (ht0 : t0[0]? = some (.pointer (some ⟨p, 0, none⟩))) (ht3 : t0[3]? = some (.slice (vi) (ni) (ci))) (Q : Exit → Act → World → Prop) : ∀ i, i < 12 → RStepX Tryz.prog R_scr3 (lay_scr3 p vi ni ci now m) t0 (fun x L => X x (L 10)) Q i
  | 0, _ => scr3_0 p vi ni ci now m X   t0 hz ht3 Q
  | 1, _ => scr3_1 p vi ni ci now m X   t0 hz ht0 Q
  | 2, _ => scr3_2 p vi ni ci now m X   t0 hz  Q
  | 3, _ => scr3_3 p vi ni ci now m X   t0 hz  Q
  | 4, _ => scr3_4 p vi ni ci now m X   t0 hz  Q
  | 5, _ => scr3_5 p vi ni ci now m X  M5 t0 hz  Q
  | 6, _ => scr3_6 p vi ni ci now m X   t0 hz ht0 Q
  | 7, _ => scr3_7 p vi ni ci now m X   t0 hz  Q
  | 8, _ => scr3_8 p vi ni ci now m X   t0 hz  Q
  | 9, _ => scr3_9 p vi ni ci now m X  M9 t0 hz  Q
  | 10, _ => scr3_10 p vi ni ci now m X  C10 t0 hz  Q
  | 11, _ => scr3_11 p vi ni ci now m X   t0 hz  Q
  | k + 12, h => absurd h (by omega)
end
theorem scr3_at {ops : Array Oper} (ho : ops = R_scr3) (p : Nat) (vi : Option Addr) (ni : Nat) (ci : Nat) (now : Int) (m : Nat) (X : ((Option Addr × Nat)) → Bool → World → Prop)  (M5 : ∀ (x : ((Option Addr × Nat))) (w : World), X x false w → w.cell? ⟨p, 19, none⟩ = some (.int .i64 0)) (M9 : ∀ (x : ((Option Addr × Nat))) (w : World), X x false w → w.cell? ⟨p, 20, none⟩ = some (.int .i64 now)) (C10 : ∀ (x : ((Option Addr × Nat))) (w : World), X x false w → Calls Tryz.prog 91 #[.slice (vi) (ni) (ci), .int .i64 0, .int .i64 now] w fun e w' => ∃ y : (Option Addr × Nat), e = .returned (.slice (y.1) (m) (y.2)) ∧ X y true w') (t0 : Array Value) (hz : t0.size = 79) (ht0 : t0[0]? = some (.pointer (some ⟨p, 0, none⟩))) (ht3 : t0[3]? = some (.slice (vi) (ni) (ci))) {id : Nat} {Q : Exit → Act → World → Prop} {w : World} (x0 : ((Option Addr × Nat))) (start : X x0 false w.drew) (fin : ∀ x w', X x true w' → Q .normal ⟨puts ((lay_scr3 p vi ni ci now m) x) t0, []⟩ w') : (Code.region id ops true).wp Tryz.prog Q ⟨t0, []⟩ w := by
  subst ho
  refine wp_regX (Wd := (fun x L => X x (L 10))) 12 rfl scr3_acyc scr3_size (fun _ => rfl) (scr3_nodup p vi ni ci now m) (fun x => by rw [scr3_dsts, hz]; rfl) x0 start (fun i hi => scr3_step p vi ni ci now m X  M5 M9 C10 t0 hz ht0 ht3 Q i hi) fun x L w' hl hw => fin x w' ?_
  have hw : X x (L 10) w' := hw
  rw [hl 10 (by omega)] at hw
  exact hw
noncomputable def R_scr11 : Array Oper := reg Tryz.f61 11
theorem scr11_size : R_scr11.size = 16 := by kernel_rfl
theorem scr11_acyc : acycB R_scr11 = true := by kernel_rfl
/-- What the operations lay. -/
noncomputable def lay_scr11 (p : Nat) (B : Nat) (va : Option Addr) (n : Nat) (c : Nat) (pid : Int) (now : Int) (since : Int) (busy : Int) (x : Nat × (Option Addr × Nat)) : Lay := [(some 44, .slice (va) (n) (c)),
  (some 45, .int .i64 pid),
  (some 46, .pointer (some ⟨p, 0, none⟩)),
  (some 47, .pointer (some ⟨p, 0, none⟩)),
  (some 48, .pointer (some ⟨p, 20, none⟩)),
  (some 49, .int .i64 now),
  (some 50, .pointer (some ⟨B, 3, none⟩)),
  (some 51, .int .i64 since),
  (some 52, .int .i64 (now - since)),
  (some 53, .pointer (some ⟨B, 2, none⟩)),
  (some 54, .int .i64 busy),
  (some 55, .int .i64 (busy * 1000)),
  (some 56, .agg #[.int .i64 pid, .int .i64 (now - since), .int .i64 (busy * 1000)]),
  (some 57, .slice (some ⟨x.1, 0, none⟩) (1) (1)),
  (some 58, .slice (x.2.1) (n + 1) (x.2.2)),
  (some 4, .slice (x.2.1) (n + 1) (x.2.2))]
theorem scr11_dsts (p : Nat) (B : Nat) (va : Option Addr) (n : Nat) (c : Nat) (pid : Int) (now : Int) (since : Int) (busy : Int) (x : Nat × (Option Addr × Nat)) : dsts (lay_scr11 p B va n c pid now since busy x) = [44, 45, 46, 47, 48, 49, 50, 51, 52, 53, 54, 55, 56, 57, 58, 4] := rfl
theorem scr11_nodup (p : Nat) (B : Nat) (va : Option Addr) (n : Nat) (c : Nat) (pid : Int) (now : Int) (since : Int) (busy : Int) (x : Nat × (Option Addr × Nat)) : (dsts (lay_scr11 p B va n c pid now since busy x)).Nodup := by rw [scr11_dsts]; decide
theorem scr11_swap13 (p : Nat) (B : Nat) (va : Option Addr) (n : Nat) (c : Nat) (pid : Int) (now : Int) (since : Int) (busy : Int) (x : Nat × (Option Addr × Nat)) (y : Nat) (j : Nat) (e13 : ¬ j = 13) (e14 : ¬ j = 14) (e15 : ¬ j = 15) : ((lay_scr11 p B va n c pid now since busy) (y, x.2))[j]? = ((lay_scr11 p B va n c pid now since busy) x)[j]? := by
  have h : (lay_scr11 p B va n c pid now since busy) (y, x.2) = (((((lay_scr11 p B va n c pid now since busy) x).set 13 (some 57, .slice (some ⟨y, 0, none⟩) (1) (1))).set 14 (some 58, .slice (x.2.1) (n + 1) (x.2.2))).set 15 (some 4, .slice (x.2.1) (n + 1) (x.2.2))) := rfl
  rw [h, List.getElem?_set_ne (fun h => e15 h.symm), List.getElem?_set_ne (fun h => e14 h.symm), List.getElem?_set_ne (fun h => e13 h.symm)]
theorem scr11_swap14 (p : Nat) (B : Nat) (va : Option Addr) (n : Nat) (c : Nat) (pid : Int) (now : Int) (since : Int) (busy : Int) (x : Nat × (Option Addr × Nat)) (y : (Option Addr × Nat)) (j : Nat) (e14 : ¬ j = 14) (e15 : ¬ j = 15) : ((lay_scr11 p B va n c pid now since busy) (x.1, y))[j]? = ((lay_scr11 p B va n c pid now since busy) x)[j]? := by
  have h : (lay_scr11 p B va n c pid now since busy) (x.1, y) = ((((lay_scr11 p B va n c pid now since busy) x).set 14 (some 58, .slice (y.1) (n + 1) (y.2))).set 15 (some 4, .slice (y.1) (n + 1) (y.2))) := rfl
  rw [h, List.getElem?_set_ne (fun h => e15 h.symm), List.getElem?_set_ne (fun h => e14 h.symm)]
section
variable (p : Nat) (B : Nat) (va : Option Addr) (n : Nat) (c : Nat) (pid : Int) (now : Int) (since : Int) (busy : Int) (X : (Nat × (Option Addr × Nat)) → Bool → Bool → World → Prop)
theorem scr11_0 (hq0 : 0 ≤ since) (hq1 : since ≤ now) (hq2 : now ≤ 1099511627776) (hq3 : 0 ≤ busy) (hq4 : busy ≤ 1000) (t0 : Array Value) (hz : t0.size = 79) (ht4 : t0[4]? = some (.slice (va) (n) (c))) (Q : Exit → Act → World → Prop) : RStepX Tryz.prog R_scr11 (lay_scr11 p B va n c pid now since busy) t0 (fun x L => X x (L 13) (L 14)) Q 0 := by
  intro x L o a w ho hL hd hI
  have _ := hq4
  have _ := hq3
  have _ := hq2
  have _ := hq1
  have _ := hq0
  have v15 : L 15 = false := by
    cases q15 : L 15 with
    | false => rfl
    | true =>
      have q0 : L 0 = true := hI.tr q15 (by kernel_rfl)
      rw [hL] at q0; cases q0
  have f4 : a.tmps[4]? = some (.slice (va) (n) (c)) := hI.pre (scr11_nodup p B va n c pid now since busy _) (k := 15) rfl v15 ht4
  have h : R_scr11[0]? = some R_scr11[0] := rfl
  conv at h => rhs; arg 1; whnf
  simp only [wpOp, h]
  rw [if_pos (by rfl)]
  left
  go_simp
  exact ⟨x, hI.put (scr11_nodup p B va n c pid now since busy _) 0 ho hd _ _ _ rfl (.inr (rfl)) (by intro e he; cases he; exact hz ▸ (by decide : (44 : Nat) < 79)) hI.wd⟩
theorem scr11_1 (hq0 : 0 ≤ since) (hq1 : since ≤ now) (hq2 : now ≤ 1099511627776) (hq3 : 0 ≤ busy) (hq4 : busy ≤ 1000) (t0 : Array Value) (hz : t0.size = 79) (ht7 : t0[7]? = some (.int .i64 pid)) (Q : Exit → Act → World → Prop) : RStepX Tryz.prog R_scr11 (lay_scr11 p B va n c pid now since busy) t0 (fun x L => X x (L 13) (L 14)) Q 1 := by
  intro x L o a w ho hL hd hI
  have _ := hq4
  have _ := hq3
  have _ := hq2
  have _ := hq1
  have _ := hq0
  have f7 : a.tmps[7]? = some (.int .i64 pid) := hI.from ht7 rfl
  have h : R_scr11[1]? = some R_scr11[1] := rfl
  conv at h => rhs; arg 1; whnf
  simp only [wpOp, h]
  rw [if_pos (by rfl)]
  left
  go_simp
  exact ⟨x, hI.put (scr11_nodup p B va n c pid now since busy _) 1 ho hd _ _ _ rfl (.inr (rfl)) (by intro e he; cases he; exact hz ▸ (by decide : (45 : Nat) < 79)) hI.wd⟩
theorem scr11_2 (hq0 : 0 ≤ since) (hq1 : since ≤ now) (hq2 : now ≤ 1099511627776) (hq3 : 0 ≤ busy) (hq4 : busy ≤ 1000) (t0 : Array Value) (hz : t0.size = 79) (ht0 : t0[0]? = some (.pointer (some ⟨p, 0, none⟩))) (Q : Exit → Act → World → Prop) : RStepX Tryz.prog R_scr11 (lay_scr11 p B va n c pid now since busy) t0 (fun x L => X x (L 13) (L 14)) Q 2 := by
  intro x L o a w ho hL hd hI
  have _ := hq4
  have _ := hq3
  have _ := hq2
  have _ := hq1
  have _ := hq0
  have f0 : a.tmps[0]? = some (.pointer (some ⟨p, 0, none⟩)) := hI.from ht0 rfl
  have h : R_scr11[2]? = some R_scr11[2] := rfl
  conv at h => rhs; arg 1; whnf
  simp only [wpOp, h]
  rw [if_pos (by rfl)]
  left
  go_simp
  exact ⟨x, hI.put (scr11_nodup p B va n c pid now since busy _) 2 ho hd _ _ _ rfl (.inr (rfl)) (by intro e he; cases he; exact hz ▸ (by decide : (46 : Nat) < 79)) hI.wd⟩
theorem scr11_3 (hq0 : 0 ≤ since) (hq1 : since ≤ now) (hq2 : now ≤ 1099511627776) (hq3 : 0 ≤ busy) (hq4 : busy ≤ 1000) (t0 : Array Value) (hz : t0.size = 79) (Q : Exit → Act → World → Prop) : RStepX Tryz.prog R_scr11 (lay_scr11 p B va n c pid now since busy) t0 (fun x L => X x (L 13) (L 14)) Q 3 := by
  intro x L o a w ho hL hd hI
  have _ := hq4
  have _ := hq3
  have _ := hq2
  have _ := hq1
  have _ := hq0
  have d2 : L 2 = true := dep_spec ho hd (k := 2) (by kernel_rfl)
  have f46 : a.tmps[46]? = some (.pointer (some ⟨p, 0, none⟩)) := hI.at 2 rfl d2
  have h : R_scr11[3]? = some R_scr11[3] := rfl
  conv at h => rhs; arg 1; whnf
  simp only [wpOp, h]
  rw [if_pos (by rfl)]
  left
  go_simp
  exact ⟨x, hI.put (scr11_nodup p B va n c pid now since busy _) 3 ho hd _ _ _ rfl (.inr (rfl)) (by intro e he; cases he; exact hz ▸ (by decide : (47 : Nat) < 79)) hI.wd⟩
theorem scr11_4 (hq0 : 0 ≤ since) (hq1 : since ≤ now) (hq2 : now ≤ 1099511627776) (hq3 : 0 ≤ busy) (hq4 : busy ≤ 1000) (t0 : Array Value) (hz : t0.size = 79) (Q : Exit → Act → World → Prop) : RStepX Tryz.prog R_scr11 (lay_scr11 p B va n c pid now since busy) t0 (fun x L => X x (L 13) (L 14)) Q 4 := by
  intro x L o a w ho hL hd hI
  have _ := hq4
  have _ := hq3
  have _ := hq2
  have _ := hq1
  have _ := hq0
  have d3 : L 3 = true := dep_spec ho hd (k := 3) (by kernel_rfl)
  have f47 : a.tmps[47]? = some (.pointer (some ⟨p, 0, none⟩)) := hI.at 3 rfl d3
  have h : R_scr11[4]? = some R_scr11[4] := rfl
  conv at h => rhs; arg 1; whnf
  simp only [wpOp, h]
  rw [if_pos (by rfl)]
  left
  go_simp
  exact ⟨x, hI.put (scr11_nodup p B va n c pid now since busy _) 4 ho hd _ _ _ rfl (.inr (rfl)) (by intro e he; cases he; exact hz ▸ (by decide : (48 : Nat) < 79)) hI.wd⟩
theorem scr11_5 (hq0 : 0 ≤ since) (hq1 : since ≤ now) (hq2 : now ≤ 1099511627776) (hq3 : 0 ≤ busy) (hq4 : busy ≤ 1000) (M5 : ∀ (x : (Nat × (Option Addr × Nat))) (w : World), X x false false w → w.cell? ⟨p, 20, none⟩ = some (.int .i64 now)) (t0 : Array Value) (hz : t0.size = 79) (Q : Exit → Act → World → Prop) : RStepX Tryz.prog R_scr11 (lay_scr11 p B va n c pid now since busy) t0 (fun x L => X x (L 13) (L 14)) Q 5 := by
  intro x L o a w ho hL hd hI
  have _ := hq4
  have _ := hq3
  have _ := hq2
  have _ := hq1
  have _ := hq0
  have d4 : L 4 = true := dep_spec ho hd (k := 4) (by kernel_rfl)
  have f48 : a.tmps[48]? = some (.pointer (some ⟨p, 20, none⟩)) := hI.at 4 rfl d4
  have z13 : L 13 = false := by
    cases q13 : L 13 with
    | false => rfl
    | true =>
      have q12 : L 12 = true := hI.tr q13 (by kernel_rfl)
      have q8 : L 8 = true := hI.tr q12 (by kernel_rfl)
      have q5 : L 5 = true := hI.tr q8 (by kernel_rfl)
      rw [hL] at q5; cases q5
  have z14 : L 14 = false := by
    cases q14 : L 14 with
    | false => rfl
    | true =>
      have q13 : L 13 = true := hI.tr q14 (by kernel_rfl)
      have q12 : L 12 = true := hI.tr q13 (by kernel_rfl)
      have q8 : L 8 = true := hI.tr q12 (by kernel_rfl)
      have q5 : L 5 = true := hI.tr q8 (by kernel_rfl)
      rw [hL] at q5; cases q5
  have hw : X x (L 13) (L 14) w := hI.wd
  rw [z13, z14] at hw
  have hv := M5 x  w hw
  have h : R_scr11[5]? = some R_scr11[5] := rfl
  conv at h => rhs; arg 1; whnf
  simp only [wpOp, h]
  rw [if_pos (by rfl)]
  left
  go_simp
  exact ⟨x, hI.put (scr11_nodup p B va n c pid now since busy _) 5 ho hd _ _ _ rfl (.inr (rfl)) (by intro e he; cases he; exact hz ▸ (by decide : (49 : Nat) < 79)) hI.wd⟩
theorem scr11_6 (hq0 : 0 ≤ since) (hq1 : since ≤ now) (hq2 : now ≤ 1099511627776) (hq3 : 0 ≤ busy) (hq4 : busy ≤ 1000) (t0 : Array Value) (hz : t0.size = 79) (ht9 : t0[9]? = some (.pointer (some ⟨B, 0, none⟩))) (Q : Exit → Act → World → Prop) : RStepX Tryz.prog R_scr11 (lay_scr11 p B va n c pid now since busy) t0 (fun x L => X x (L 13) (L 14)) Q 6 := by
  intro x L o a w ho hL hd hI
  have _ := hq4
  have _ := hq3
  have _ := hq2
  have _ := hq1
  have _ := hq0
  have f9 : a.tmps[9]? = some (.pointer (some ⟨B, 0, none⟩)) := hI.from ht9 rfl
  have h : R_scr11[6]? = some R_scr11[6] := rfl
  conv at h => rhs; arg 1; whnf
  simp only [wpOp, h]
  rw [if_pos (by rfl)]
  left
  go_simp
  exact ⟨x, hI.put (scr11_nodup p B va n c pid now since busy _) 6 ho hd _ _ _ rfl (.inr (rfl)) (by intro e he; cases he; exact hz ▸ (by decide : (50 : Nat) < 79)) hI.wd⟩
theorem scr11_7 (hq0 : 0 ≤ since) (hq1 : since ≤ now) (hq2 : now ≤ 1099511627776) (hq3 : 0 ≤ busy) (hq4 : busy ≤ 1000) (M7 : ∀ (x : (Nat × (Option Addr × Nat))) (w : World), X x false false w → w.cell? ⟨B, 3, none⟩ = some (.int .i64 since)) (t0 : Array Value) (hz : t0.size = 79) (Q : Exit → Act → World → Prop) : RStepX Tryz.prog R_scr11 (lay_scr11 p B va n c pid now since busy) t0 (fun x L => X x (L 13) (L 14)) Q 7 := by
  intro x L o a w ho hL hd hI
  have _ := hq4
  have _ := hq3
  have _ := hq2
  have _ := hq1
  have _ := hq0
  have d6 : L 6 = true := dep_spec ho hd (k := 6) (by kernel_rfl)
  have f50 : a.tmps[50]? = some (.pointer (some ⟨B, 3, none⟩)) := hI.at 6 rfl d6
  have z13 : L 13 = false := by
    cases q13 : L 13 with
    | false => rfl
    | true =>
      have q12 : L 12 = true := hI.tr q13 (by kernel_rfl)
      have q8 : L 8 = true := hI.tr q12 (by kernel_rfl)
      have q7 : L 7 = true := hI.tr q8 (by kernel_rfl)
      rw [hL] at q7; cases q7
  have z14 : L 14 = false := by
    cases q14 : L 14 with
    | false => rfl
    | true =>
      have q13 : L 13 = true := hI.tr q14 (by kernel_rfl)
      have q12 : L 12 = true := hI.tr q13 (by kernel_rfl)
      have q8 : L 8 = true := hI.tr q12 (by kernel_rfl)
      have q7 : L 7 = true := hI.tr q8 (by kernel_rfl)
      rw [hL] at q7; cases q7
  have hw : X x (L 13) (L 14) w := hI.wd
  rw [z13, z14] at hw
  have hv := M7 x  w hw
  have h : R_scr11[7]? = some R_scr11[7] := rfl
  conv at h => rhs; arg 1; whnf
  simp only [wpOp, h]
  rw [if_pos (by rfl)]
  left
  go_simp
  exact ⟨x, hI.put (scr11_nodup p B va n c pid now since busy _) 7 ho hd _ _ _ rfl (.inr (rfl)) (by intro e he; cases he; exact hz ▸ (by decide : (51 : Nat) < 79)) hI.wd⟩
theorem scr11_8 (hq0 : 0 ≤ since) (hq1 : since ≤ now) (hq2 : now ≤ 1099511627776) (hq3 : 0 ≤ busy) (hq4 : busy ≤ 1000) (t0 : Array Value) (hz : t0.size = 79) (Q : Exit → Act → World → Prop) : RStepX Tryz.prog R_scr11 (lay_scr11 p B va n c pid now since busy) t0 (fun x L => X x (L 13) (L 14)) Q 8 := by
  intro x L o a w ho hL hd hI
  have _ := hq4
  have _ := hq3
  have _ := hq2
  have _ := hq1
  have _ := hq0
  have d5 : L 5 = true := dep_spec ho hd (k := 5) (by kernel_rfl)
  have f49 : a.tmps[49]? = some (.int .i64 now) := hI.at 5 rfl d5
  have d7 : L 7 = true := dep_spec ho hd (k := 7) (by kernel_rfl)
  have f51 : a.tmps[51]? = some (.int .i64 since) := hI.at 7 rfl d7
  have h : R_scr11[8]? = some R_scr11[8] := rfl
  conv at h => rhs; arg 1; whnf
  simp only [wpOp, h]
  rw [if_pos (by rfl)]
  left
  go_simp
  exact ⟨x, hI.put (scr11_nodup p B va n c pid now since busy _) 8 ho hd _ _ _ rfl (.inr (congrArg (Value.int .i64) (by rw [IntKind.wrap_i64]; omega))) (by intro e he; cases he; exact hz ▸ (by decide : (52 : Nat) < 79)) hI.wd⟩
theorem scr11_9 (hq0 : 0 ≤ since) (hq1 : since ≤ now) (hq2 : now ≤ 1099511627776) (hq3 : 0 ≤ busy) (hq4 : busy ≤ 1000) (t0 : Array Value) (hz : t0.size = 79) (ht9 : t0[9]? = some (.pointer (some ⟨B, 0, none⟩))) (Q : Exit → Act → World → Prop) : RStepX Tryz.prog R_scr11 (lay_scr11 p B va n c pid now since busy) t0 (fun x L => X x (L 13) (L 14)) Q 9 := by
  intro x L o a w ho hL hd hI
  have _ := hq4
  have _ := hq3
  have _ := hq2
  have _ := hq1
  have _ := hq0
  have f9 : a.tmps[9]? = some (.pointer (some ⟨B, 0, none⟩)) := hI.from ht9 rfl
  have h : R_scr11[9]? = some R_scr11[9] := rfl
  conv at h => rhs; arg 1; whnf
  simp only [wpOp, h]
  rw [if_pos (by rfl)]
  left
  go_simp
  exact ⟨x, hI.put (scr11_nodup p B va n c pid now since busy _) 9 ho hd _ _ _ rfl (.inr (rfl)) (by intro e he; cases he; exact hz ▸ (by decide : (53 : Nat) < 79)) hI.wd⟩
theorem scr11_10 (hq0 : 0 ≤ since) (hq1 : since ≤ now) (hq2 : now ≤ 1099511627776) (hq3 : 0 ≤ busy) (hq4 : busy ≤ 1000) (M10 : ∀ (x : (Nat × (Option Addr × Nat))) (w : World), X x false false w → w.cell? ⟨B, 2, none⟩ = some (.int .i64 busy)) (t0 : Array Value) (hz : t0.size = 79) (Q : Exit → Act → World → Prop) : RStepX Tryz.prog R_scr11 (lay_scr11 p B va n c pid now since busy) t0 (fun x L => X x (L 13) (L 14)) Q 10 := by
  intro x L o a w ho hL hd hI
  have _ := hq4
  have _ := hq3
  have _ := hq2
  have _ := hq1
  have _ := hq0
  have d9 : L 9 = true := dep_spec ho hd (k := 9) (by kernel_rfl)
  have f53 : a.tmps[53]? = some (.pointer (some ⟨B, 2, none⟩)) := hI.at 9 rfl d9
  have z13 : L 13 = false := by
    cases q13 : L 13 with
    | false => rfl
    | true =>
      have q12 : L 12 = true := hI.tr q13 (by kernel_rfl)
      have q11 : L 11 = true := hI.tr q12 (by kernel_rfl)
      have q10 : L 10 = true := hI.tr q11 (by kernel_rfl)
      rw [hL] at q10; cases q10
  have z14 : L 14 = false := by
    cases q14 : L 14 with
    | false => rfl
    | true =>
      have q13 : L 13 = true := hI.tr q14 (by kernel_rfl)
      have q12 : L 12 = true := hI.tr q13 (by kernel_rfl)
      have q11 : L 11 = true := hI.tr q12 (by kernel_rfl)
      have q10 : L 10 = true := hI.tr q11 (by kernel_rfl)
      rw [hL] at q10; cases q10
  have hw : X x (L 13) (L 14) w := hI.wd
  rw [z13, z14] at hw
  have hv := M10 x  w hw
  have h : R_scr11[10]? = some R_scr11[10] := rfl
  conv at h => rhs; arg 1; whnf
  simp only [wpOp, h]
  rw [if_pos (by rfl)]
  left
  go_simp
  exact ⟨x, hI.put (scr11_nodup p B va n c pid now since busy _) 10 ho hd _ _ _ rfl (.inr (rfl)) (by intro e he; cases he; exact hz ▸ (by decide : (54 : Nat) < 79)) hI.wd⟩
theorem scr11_11 (hq0 : 0 ≤ since) (hq1 : since ≤ now) (hq2 : now ≤ 1099511627776) (hq3 : 0 ≤ busy) (hq4 : busy ≤ 1000) (t0 : Array Value) (hz : t0.size = 79) (Q : Exit → Act → World → Prop) : RStepX Tryz.prog R_scr11 (lay_scr11 p B va n c pid now since busy) t0 (fun x L => X x (L 13) (L 14)) Q 11 := by
  intro x L o a w ho hL hd hI
  have _ := hq4
  have _ := hq3
  have _ := hq2
  have _ := hq1
  have _ := hq0
  have d10 : L 10 = true := dep_spec ho hd (k := 10) (by kernel_rfl)
  have f54 : a.tmps[54]? = some (.int .i64 busy) := hI.at 10 rfl d10
  have h : R_scr11[11]? = some R_scr11[11] := rfl
  conv at h => rhs; arg 1; whnf
  simp only [wpOp, h]
  rw [if_pos (by rfl)]
  left
  go_simp
  exact ⟨x, hI.put (scr11_nodup p B va n c pid now since busy _) 11 ho hd _ _ _ rfl (.inr (congrArg (Value.int .i64) (by rw [IntKind.wrap_i64]; omega))) (by intro e he; cases he; exact hz ▸ (by decide : (55 : Nat) < 79)) hI.wd⟩
theorem scr11_12 (hq0 : 0 ≤ since) (hq1 : since ≤ now) (hq2 : now ≤ 1099511627776) (hq3 : 0 ≤ busy) (hq4 : busy ≤ 1000) (t0 : Array Value) (hz : t0.size = 79) (Q : Exit → Act → World → Prop) : RStepX Tryz.prog R_scr11 (lay_scr11 p B va n c pid now since busy) t0 (fun x L => X x (L 13) (L 14)) Q 12 := by
  intro x L o a w ho hL hd hI
  have _ := hq4
  have _ := hq3
  have _ := hq2
  have _ := hq1
  have _ := hq0
  have d1 : L 1 = true := dep_spec ho hd (k := 1) (by kernel_rfl)
  have f45 : a.tmps[45]? = some (.int .i64 pid) := hI.at 1 rfl d1
  have d8 : L 8 = true := dep_spec ho hd (k := 8) (by kernel_rfl)
  have f52 : a.tmps[52]? = some (.int .i64 (now - since)) := hI.at 8 rfl d8
  have d11 : L 11 = true := dep_spec ho hd (k := 11) (by kernel_rfl)
  have f55 : a.tmps[55]? = some (.int .i64 (busy * 1000)) := hI.at 11 rfl d11
  have h : R_scr11[12]? = some R_scr11[12] := rfl
  conv at h => rhs; arg 1; whnf
  simp only [wpOp, h]
  rw [if_pos (by rfl)]
  left
  go_simp
  exact ⟨x, hI.put (scr11_nodup p B va n c pid now since busy _) 12 ho hd _ _ _ rfl (.inr (rfl)) (by intro e he; cases he; exact hz ▸ (by decide : (56 : Nat) < 79)) hI.wd⟩
theorem scr11_13 (hq0 : 0 ≤ since) (hq1 : since ≤ now) (hq2 : now ≤ 1099511627776) (hq3 : 0 ≤ busy) (hq4 : busy ≤ 1000) (B13 : ∀ (x : (Nat × (Option Addr × Nat))) (w : World), X x false false w → X (w.heap.size, x.2) true false (w.alloc (.cells #[.int .i64 pid, .int .i64 (now - since), .int .i64 (busy * 1000)] 161))) (t0 : Array Value) (hz : t0.size = 79) (Q : Exit → Act → World → Prop) : RStepX Tryz.prog R_scr11 (lay_scr11 p B va n c pid now since busy) t0 (fun x L => X x (L 13) (L 14)) Q 13 := by
  intro x L o a w ho hL hd hI
  have _ := hq4
  have _ := hq3
  have _ := hq2
  have _ := hq1
  have _ := hq0
  have d12 : L 12 = true := dep_spec ho hd (k := 12) (by kernel_rfl)
  have f56 : a.tmps[56]? = some (.agg #[.int .i64 pid, .int .i64 (now - since), .int .i64 (busy * 1000)]) := hI.at 12 rfl d12
  have z13 : L 13 = false := hL
  have z14 : L 14 = false := by
    cases q14 : L 14 with
    | false => rfl
    | true =>
      have q13 : L 13 = true := hI.tr q14 (by kernel_rfl)
      rw [hL] at q13; cases q13
  have hw : X x (L 13) (L 14) w := hI.wd
  rw [z13, z14] at hw
  have hv := B13 x  w hw
  have h : R_scr11[13]? = some R_scr11[13] := rfl
  conv at h => rhs; arg 1; whnf
  simp only [wpOp, h]
  rw [if_pos (by rfl)]
  left
  go_simp
  have hx2 : X (w.heap.size, x.2) true (L 14) (w.alloc (.cells #[.int .i64 pid, .int .i64 (now - since), .int .i64 (busy * 1000)] 161)) := by
    rw [z14]
    exact hv
  have n14 : L 14 = false := by
    cases q14 : L 14 with
    | false => rfl
    | true =>
      have q13 : L 13 = true := hI.tr q14 (by kernel_rfl)
      rw [hL] at q13; cases q13
  have n15 : L 15 = false := by
    cases q15 : L 15 with
    | false => rfl
    | true =>
      have q13 : L 13 = true := hI.tr q15 (by kernel_rfl)
      rw [hL] at q13; cases q13
  have hsw : ∀ j, L j = true → ((lay_scr11 p B va n c pid now since busy) (w.heap.size, x.2))[j]? = ((lay_scr11 p B va n c pid now since busy) x)[j]? := by
    intro j hj
    by_cases e13 : j = 13
    · subst e13; rw [hL] at hj; cases hj
    by_cases e14 : j = 14
    · subst e14; rw [n14] at hj; cases hj
    by_cases e15 : j = 15
    · subst e15; rw [n15] at hj; cases hj
    exact scr11_swap13 p B va n c pid now since busy x _ j e13 e14 e15
  have hp := (hI.swap (l' := (lay_scr11 p B va n c pid now since busy) (w.heap.size, x.2)) rfl hsw)
  exact ⟨(w.heap.size, x.2), (hp.put (w' := w) (scr11_nodup p B va n c pid now since busy _) 13 ho hd _ _ _ rfl (.inr (rfl)) (by intro e he; cases he; exact hz ▸ (by decide : (57 : Nat) < 79)) trivial).rewd hx2⟩
theorem scr11_14 (hq0 : 0 ≤ since) (hq1 : since ≤ now) (hq2 : now ≤ 1099511627776) (hq3 : 0 ≤ busy) (hq4 : busy ≤ 1000) (B14 : ∀ (x : (Nat × (Option Addr × Nat))) (w : World), X x true false w → ∃ (S : Nat → Prop) (xs : List Value), Own w S 161 3 (.slice (va) (n) (c)) (n) xs ∧ (∀ j u, ([.int .i64 pid, .int .i64 (now - since), .int .i64 (busy * 1000)] : List Value)[j]? = some u → w.cell? ((⟨x.1, 0, none⟩ : Addr).add j) = some u) ∧ (n) + 1 ≤ maxLen ∧ ((n) + 1) * 24 ≤ 140737488355328 ∧ ∀ g' o' c' w', Own w' (nx S w w') 161 3 (.slice (some ⟨g', o', none⟩) ((n) + 1) c') ((n) + 1) (xs ++ [.int .i64 pid, .int .i64 (now - since), .int .i64 (busy * 1000)]) → Chg S w w' → X (x.1, (some ⟨g', o', none⟩, c')) true true w') (t0 : Array Value) (hz : t0.size = 79) (Q : Exit → Act → World → Prop) : RStepX Tryz.prog R_scr11 (lay_scr11 p B va n c pid now since busy) t0 (fun x L => X x (L 13) (L 14)) Q 14 := by
  intro x L o a w ho hL hd hI
  have _ := hq4
  have _ := hq3
  have _ := hq2
  have _ := hq1
  have _ := hq0
  have d0 : L 0 = true := dep_spec ho hd (k := 0) (by kernel_rfl)
  have f44 : a.tmps[44]? = some (.slice (va) (n) (c)) := hI.at 0 rfl d0
  have d13 : L 13 = true := dep_spec ho hd (k := 13) (by kernel_rfl)
  have f57 : a.tmps[57]? = some (.slice (some ⟨x.1, 0, none⟩) (1) (1)) := hI.at 13 rfl d13
  have y13 : L 13 = true := dep_spec ho hd (k := 13) (by kernel_rfl)
  have z13 : L 13 = true := y13
  have z14 : L 14 = false := hL
  have hw : X x (L 13) (L 14) w := hI.wd
  rw [z13, z14] at hw
  obtain ⟨S, xs, hown, hnews, h63, hby, hK⟩ := B14 x  w hw
  have h : R_scr11[14]? = some R_scr11[14] := rfl
  conv at h => rhs; arg 1; whnf
  simp only [wpOp, h]
  rw [if_pos (by rfl)]
  left
  obtain ⟨i0, hi, hz0, hz1, hz2⟩ := info_parts info161
  refine oper_app (.tmp 44) (.tmp 57) 158 rfl S 161 i0 _ 3 24 Tryz.underlying158 hi hz0 hz1 hz2 rfl _ _ xs (by simp [Act.eval, f44]) hown ⟨x.1, 0, none⟩ 1 1 [.int .i64 pid, .int .i64 (now - since), .int .i64 (busy * 1000)] (by simp [Act.eval, f57]) (by decide) rfl hnews (by simp [Value.oneCell']) h63 hby ?_
  intro g' o' c' w' ho' hc'
  have hx := hK g' o' c' w' ho' hc'
  have hx2 : X (x.1, (some ⟨g', o', none⟩, c')) (L 13) true w' := by
    rw [z13]
    exact hx
  have n15 : L 15 = false := by
    cases q15 : L 15 with
    | false => rfl
    | true =>
      have q14 : L 14 = true := hI.tr q15 (by kernel_rfl)
      rw [hL] at q14; cases q14
  have hsw : ∀ j, L j = true → ((lay_scr11 p B va n c pid now since busy) (x.1, (some ⟨g', o', none⟩, c')))[j]? = ((lay_scr11 p B va n c pid now since busy) x)[j]? := by
    intro j hj
    by_cases e14 : j = 14
    · subst e14; rw [hL] at hj; cases hj
    by_cases e15 : j = 15
    · subst e15; rw [n15] at hj; cases hj
    exact scr11_swap14 p B va n c pid now since busy x _ j e14 e15
  have hp := (hI.swap (l' := (lay_scr11 p B va n c pid now since busy) (x.1, (some ⟨g', o', none⟩, c'))) rfl hsw)
  exact ⟨(x.1, (some ⟨g', o', none⟩, c')), (hp.put (w' := w) (scr11_nodup p B va n c pid now since busy _) 14 ho hd _ _ _ rfl (.inr (rfl)) (by intro e he; cases he; exact hz ▸ (by decide : (58 : Nat) < 79)) trivial).rewd hx2⟩
theorem scr11_15 (hq0 : 0 ≤ since) (hq1 : since ≤ now) (hq2 : now ≤ 1099511627776) (hq3 : 0 ≤ busy) (hq4 : busy ≤ 1000) (t0 : Array Value) (hz : t0.size = 79) (Q : Exit → Act → World → Prop) : RStepX Tryz.prog R_scr11 (lay_scr11 p B va n c pid now since busy) t0 (fun x L => X x (L 13) (L 14)) Q 15 := by
  intro x L o a w ho hL hd hI
  have _ := hq4
  have _ := hq3
  have _ := hq2
  have _ := hq1
  have _ := hq0
  have d14 : L 14 = true := dep_spec ho hd (k := 14) (by kernel_rfl)
  have f58 : a.tmps[58]? = some (.slice (x.2.1) (n + 1) (x.2.2)) := hI.at 14 rfl d14
  have h : R_scr11[15]? = some R_scr11[15] := rfl
  conv at h => rhs; arg 1; whnf
  simp only [wpOp, h]
  rw [if_pos (by rfl)]
  left
  go_simp
  exact ⟨x, hI.put (scr11_nodup p B va n c pid now since busy _) 15 ho hd _ _ _ rfl (.inr (rfl)) (by intro e he; cases he; exact hz ▸ (by decide : (4 : Nat) < 79)) hI.wd⟩
theorem scr11_step (hq0 : 0 ≤ since) (hq1 : since ≤ now) (hq2 : now ≤ 1099511627776) (hq3 : 0 ≤ busy) (hq4 : busy ≤ 1000) (M5 : ∀ (x : (Nat × (Option Addr × Nat))) (w : World), X x false false w → w.cell? ⟨p, 20, none⟩ = some (.int .i64 now)) (M7 : ∀ (x : (Nat × (Option Addr × Nat))) (w : World), X x false false w → w.cell? ⟨B, 3, none⟩ = some (.int .i64 since)) (M10 : ∀ (x : (Nat × (Option Addr × Nat))) (w : World), X x false false w → w.cell? ⟨B, 2, none⟩ = some (.int .i64 busy)) (B13 : ∀ (x : (Nat × (Option Addr × Nat))) (w : World), X x false false w → X (w.heap.size, x.2) true false (w.alloc (.cells #[.int .i64 pid, .int .i64 (now - since), .int .i64 (busy * 1000)] 161))) (B14 : ∀ (x : (Nat × (Option Addr × Nat))) (w : World), X x true false w → ∃ (S : Nat → Prop) (xs : List Value), Own w S 161 3 (.slice (va) (n) (c)) (n) xs ∧ (∀ j u, ([.int .i64 pid, .int .i64 (now - since), .int .i64 (busy * 1000)] : List Value)[j]? = some u → w.cell? ((⟨x.1, 0, none⟩ : Addr).add j) = some u) ∧ (n) + 1 ≤ maxLen ∧ ((n) + 1) * 24 ≤ 140737488355328 ∧ ∀ g' o' c' w', Own w' (nx S w w') 161 3 (.slice (some ⟨g', o', none⟩) ((n) + 1) c') ((n) + 1) (xs ++ [.int .i64 pid, .int .i64 (now - since), .int .i64 (busy * 1000)]) → Chg S w w' → X (x.1, (some ⟨g', o', none⟩, c')) true true w') (t0 : Array Value) (hz : t0.size = 79) (ht0 : t0[0]? = some (.pointer (some ⟨p, 0, none⟩))) (ht4 : t0[4]? = some (.slice (va) (n) (c))) (ht7 : t0[7]? = some (.int .i64 pid)) (ht9 : t0[9]? = some (.pointer (some ⟨B, 0, none⟩))) (Q : Exit → Act → World → Prop) : ∀ i, i < 16 → RStepX Tryz.prog R_scr11 (lay_scr11 p B va n c pid now since busy) t0 (fun x L => X x (L 13) (L 14)) Q i
  | 0, _ => scr11_0 p B va n c pid now since busy X hq0 hq1 hq2 hq3 hq4  t0 hz ht4 Q
  | 1, _ => scr11_1 p B va n c pid now since busy X hq0 hq1 hq2 hq3 hq4  t0 hz ht7 Q
  | 2, _ => scr11_2 p B va n c pid now since busy X hq0 hq1 hq2 hq3 hq4  t0 hz ht0 Q
  | 3, _ => scr11_3 p B va n c pid now since busy X hq0 hq1 hq2 hq3 hq4  t0 hz  Q
  | 4, _ => scr11_4 p B va n c pid now since busy X hq0 hq1 hq2 hq3 hq4  t0 hz  Q
  | 5, _ => scr11_5 p B va n c pid now since busy X hq0 hq1 hq2 hq3 hq4 M5 t0 hz  Q
  | 6, _ => scr11_6 p B va n c pid now since busy X hq0 hq1 hq2 hq3 hq4  t0 hz ht9 Q
  | 7, _ => scr11_7 p B va n c pid now since busy X hq0 hq1 hq2 hq3 hq4 M7 t0 hz  Q
  | 8, _ => scr11_8 p B va n c pid now since busy X hq0 hq1 hq2 hq3 hq4  t0 hz  Q
  | 9, _ => scr11_9 p B va n c pid now since busy X hq0 hq1 hq2 hq3 hq4  t0 hz ht9 Q
  | 10, _ => scr11_10 p B va n c pid now since busy X hq0 hq1 hq2 hq3 hq4 M10 t0 hz  Q
  | 11, _ => scr11_11 p B va n c pid now since busy X hq0 hq1 hq2 hq3 hq4  t0 hz  Q
  | 12, _ => scr11_12 p B va n c pid now since busy X hq0 hq1 hq2 hq3 hq4  t0 hz  Q
  | 13, _ => scr11_13 p B va n c pid now since busy X hq0 hq1 hq2 hq3 hq4 B13 t0 hz  Q
  | 14, _ => scr11_14 p B va n c pid now since busy X hq0 hq1 hq2 hq3 hq4 B14 t0 hz  Q
  | 15, _ => scr11_15 p B va n c pid now since busy X hq0 hq1 hq2 hq3 hq4  t0 hz  Q
  | k + 16, h => absurd h (by omega)
end
theorem scr11_at {ops : Array Oper} (ho : ops = R_scr11) (p : Nat) (B : Nat) (va : Option Addr) (n : Nat) (c : Nat) (pid : Int) (now : Int) (since : Int) (busy : Int) (X : (Nat × (Option Addr × Nat)) → Bool → Bool → World → Prop) (hq0 : 0 ≤ since) (hq1 : since ≤ now) (hq2 : now ≤ 1099511627776) (hq3 : 0 ≤ busy) (hq4 : busy ≤ 1000) (M5 : ∀ (x : (Nat × (Option Addr × Nat))) (w : World), X x false false w → w.cell? ⟨p, 20, none⟩ = some (.int .i64 now)) (M7 : ∀ (x : (Nat × (Option Addr × Nat))) (w : World), X x false false w → w.cell? ⟨B, 3, none⟩ = some (.int .i64 since)) (M10 : ∀ (x : (Nat × (Option Addr × Nat))) (w : World), X x false false w → w.cell? ⟨B, 2, none⟩ = some (.int .i64 busy)) (B13 : ∀ (x : (Nat × (Option Addr × Nat))) (w : World), X x false false w → X (w.heap.size, x.2) true false (w.alloc (.cells #[.int .i64 pid, .int .i64 (now - since), .int .i64 (busy * 1000)] 161))) (B14 : ∀ (x : (Nat × (Option Addr × Nat))) (w : World), X x true false w → ∃ (S : Nat → Prop) (xs : List Value), Own w S 161 3 (.slice (va) (n) (c)) (n) xs ∧ (∀ j u, ([.int .i64 pid, .int .i64 (now - since), .int .i64 (busy * 1000)] : List Value)[j]? = some u → w.cell? ((⟨x.1, 0, none⟩ : Addr).add j) = some u) ∧ (n) + 1 ≤ maxLen ∧ ((n) + 1) * 24 ≤ 140737488355328 ∧ ∀ g' o' c' w', Own w' (nx S w w') 161 3 (.slice (some ⟨g', o', none⟩) ((n) + 1) c') ((n) + 1) (xs ++ [.int .i64 pid, .int .i64 (now - since), .int .i64 (busy * 1000)]) → Chg S w w' → X (x.1, (some ⟨g', o', none⟩, c')) true true w') (t0 : Array Value) (hz : t0.size = 79) (ht0 : t0[0]? = some (.pointer (some ⟨p, 0, none⟩))) (ht4 : t0[4]? = some (.slice (va) (n) (c))) (ht7 : t0[7]? = some (.int .i64 pid)) (ht9 : t0[9]? = some (.pointer (some ⟨B, 0, none⟩))) {id : Nat} {Q : Exit → Act → World → Prop} {w : World} (x0 : (Nat × (Option Addr × Nat))) (start : X x0 false false w.drew) (fin : ∀ x w', X x true true w' → Q .normal ⟨puts ((lay_scr11 p B va n c pid now since busy) x) t0, []⟩ w') : (Code.region id ops true).wp Tryz.prog Q ⟨t0, []⟩ w := by
  subst ho
  refine wp_regX (Wd := (fun x L => X x (L 13) (L 14))) 16 rfl scr11_acyc scr11_size (fun _ => rfl) (scr11_nodup p B va n c pid now since busy) (fun x => by rw [scr11_dsts, hz]; rfl) x0 start (fun i hi => scr11_step p B va n c pid now since busy X hq0 hq1 hq2 hq3 hq4 M5 M7 M10 B13 B14 t0 hz ht0 ht4 ht7 ht9 Q i hi) fun x L w' hl hw => fin x w' ?_
  have hw : X x (L 13) (L 14) w' := hw
  rw [hl 13 (by omega), hl 14 (by omega)] at hw
  exact hw
noncomputable def R_see3 : Array Oper := reg Tryz.f13 3
theorem see3_size : R_see3.size = 30 := by kernel_rfl
theorem see3_acyc : acycB R_see3 = true := by kernel_rfl
/-- What the operations lay. -/
noncomputable def lay_see3 (p : Nat) (l : Nat) (q : Nat) (d : Nat) (now : Int) (want : Int) (pn : Bool) (px : Bool) (np : Nat) (nq : Nat) (x : (Option Addr × Nat) × (Option Addr × Nat) × Nat) : Lay := [(some 9, .pointer (some ⟨p, 0, none⟩)),
  (some 10, .pointer (some ⟨p, 0, none⟩)),
  (some 11, .pointer (some ⟨p, 20, none⟩)),
  (some 12, .int .i64 now),
  (some 13, .pointer (some ⟨p, 0, none⟩)),
  (some 14, .pointer (some ⟨p, 0, none⟩)),
  (some 15, .pointer (some ⟨p, 29, none⟩)),
  (some 16, .int .i64 want),
  (some 17, .pointer (some ⟨p, 0, none⟩)),
  (some 18, .pointer (some ⟨p, 0, none⟩)),
  (some 19, .pointer (some ⟨p, 23, none⟩)),
  (some 20, .pointer (some ⟨p, 27, none⟩)),
  (some 21, .bool pn),
  (some 22, .pointer (some ⟨p, 0, none⟩)),
  (some 23, .pointer (some ⟨p, 0, none⟩)),
  (some 24, .pointer (some ⟨p, 30, none⟩)),
  (some 25, .bool px),
  (some 26, .pointer (some ⟨p, 0, none⟩)),
  (some 27, .pointer (some ⟨l, 0, none⟩)),
  (some 28, .slice (x.1.1) (np) (x.1.2)),
  (some 29, .pointer (some ⟨p, 0, none⟩)),
  (some 30, .pointer (some ⟨q, 0, none⟩)),
  (some 31, .slice (x.2.1.1) (nq) (x.2.1.2)),
  (some 32, .int .i64 (nq)),
  (some 33, .pointer (some ⟨p, 0, none⟩)),
  (some 34, .pointer (some ⟨d, 0, none⟩)),
  (some 35, .bool false),
  (some 36, .agg #[.int .i64 now, .int .i64 want, .bool pn, .bool px, .slice (x.1.1) (np) (x.1.2), .int .i64 nq, .int .i64 0, .int .i64 0, .int .i64 0, .int .i64 0, .int .i64 0, .int .i64 0, .int .i64 0, .int .i64 0, .bool false]),
  (some 3, .pointer (some ⟨x.2.2, 0, none⟩)),
  (none, undef)]
theorem see3_dsts (p : Nat) (l : Nat) (q : Nat) (d : Nat) (now : Int) (want : Int) (pn : Bool) (px : Bool) (np : Nat) (nq : Nat) (x : (Option Addr × Nat) × (Option Addr × Nat) × Nat) : dsts (lay_see3 p l q d now want pn px np nq x) = [9, 10, 11, 12, 13, 14, 15, 16, 17, 18, 19, 20, 21, 22, 23, 24, 25, 26, 27, 28, 29, 30, 31, 32, 33, 34, 35, 36, 3] := rfl
theorem see3_nodup (p : Nat) (l : Nat) (q : Nat) (d : Nat) (now : Int) (want : Int) (pn : Bool) (px : Bool) (np : Nat) (nq : Nat) (x : (Option Addr × Nat) × (Option Addr × Nat) × Nat) : (dsts (lay_see3 p l q d now want pn px np nq x)).Nodup := by rw [see3_dsts]; decide
theorem see3_swap19 (p : Nat) (l : Nat) (q : Nat) (d : Nat) (now : Int) (want : Int) (pn : Bool) (px : Bool) (np : Nat) (nq : Nat) (x : (Option Addr × Nat) × (Option Addr × Nat) × Nat) (y : (Option Addr × Nat)) (j : Nat) (e19 : ¬ j = 19) (e27 : ¬ j = 27) (e29 : ¬ j = 29) : ((lay_see3 p l q d now want pn px np nq) (y, x.2.1, x.2.2))[j]? = ((lay_see3 p l q d now want pn px np nq) x)[j]? := by
  have h : (lay_see3 p l q d now want pn px np nq) (y, x.2.1, x.2.2) = (((((lay_see3 p l q d now want pn px np nq) x).set 19 (some 28, .slice (y.1) (np) (y.2))).set 27 (some 36, .agg #[.int .i64 now, .int .i64 want, .bool pn, .bool px, .slice (y.1) (np) (y.2), .int .i64 nq, .int .i64 0, .int .i64 0, .int .i64 0, .int .i64 0, .int .i64 0, .int .i64 0, .int .i64 0, .int .i64 0, .bool false])).set 29 (none, undef)) := rfl
  rw [h, List.getElem?_set_ne (fun h => e29 h.symm), List.getElem?_set_ne (fun h => e27 h.symm), List.getElem?_set_ne (fun h => e19 h.symm)]
theorem see3_swap22 (p : Nat) (l : Nat) (q : Nat) (d : Nat) (now : Int) (want : Int) (pn : Bool) (px : Bool) (np : Nat) (nq : Nat) (x : (Option Addr × Nat) × (Option Addr × Nat) × Nat) (y : (Option Addr × Nat)) (j : Nat) (e22 : ¬ j = 22) (e23 : ¬ j = 23) (e27 : ¬ j = 27) (e29 : ¬ j = 29) : ((lay_see3 p l q d now want pn px np nq) (x.1, y, x.2.2))[j]? = ((lay_see3 p l q d now want pn px np nq) x)[j]? := by
  have h : (lay_see3 p l q d now want pn px np nq) (x.1, y, x.2.2) = ((((((lay_see3 p l q d now want pn px np nq) x).set 22 (some 31, .slice (y.1) (nq) (y.2))).set 23 (some 32, .int .i64 (nq))).set 27 (some 36, .agg #[.int .i64 now, .int .i64 want, .bool pn, .bool px, .slice (x.1.1) (np) (x.1.2), .int .i64 nq, .int .i64 0, .int .i64 0, .int .i64 0, .int .i64 0, .int .i64 0, .int .i64 0, .int .i64 0, .int .i64 0, .bool false])).set 29 (none, undef)) := rfl
  rw [h, List.getElem?_set_ne (fun h => e29 h.symm), List.getElem?_set_ne (fun h => e27 h.symm), List.getElem?_set_ne (fun h => e23 h.symm), List.getElem?_set_ne (fun h => e22 h.symm)]
theorem see3_swap28 (p : Nat) (l : Nat) (q : Nat) (d : Nat) (now : Int) (want : Int) (pn : Bool) (px : Bool) (np : Nat) (nq : Nat) (x : (Option Addr × Nat) × (Option Addr × Nat) × Nat) (y : Nat) (j : Nat) (e28 : ¬ j = 28) (e29 : ¬ j = 29) : ((lay_see3 p l q d now want pn px np nq) (x.1, x.2.1, y))[j]? = ((lay_see3 p l q d now want pn px np nq) x)[j]? := by
  have h : (lay_see3 p l q d now want pn px np nq) (x.1, x.2.1, y) = ((((lay_see3 p l q d now want pn px np nq) x).set 28 (some 3, .pointer (some ⟨y, 0, none⟩))).set 29 (none, undef)) := rfl
  rw [h, List.getElem?_set_ne (fun h => e29 h.symm), List.getElem?_set_ne (fun h => e28 h.symm)]
section
variable (p : Nat) (l : Nat) (q : Nat) (d : Nat) (now : Int) (want : Int) (pn : Bool) (px : Bool) (np : Nat) (nq : Nat) (X : ((Option Addr × Nat) × (Option Addr × Nat) × Nat) → Bool → Bool → Bool → World → Prop)
theorem see3_0 (t0 : Array Value) (hz : t0.size = 60) (ht0 : t0[0]? = some (.pointer (some ⟨p, 0, none⟩))) (Q : Exit → Act → World → Prop) : RStepX Tryz.prog R_see3 (lay_see3 p l q d now want pn px np nq) t0 (fun x L => X x (L 19) (L 28) (L 29)) Q 0 := by
  intro x L o a w ho hL hd hI
  have f0 : a.tmps[0]? = some (.pointer (some ⟨p, 0, none⟩)) := hI.from ht0 rfl
  have h : R_see3[0]? = some R_see3[0] := rfl
  conv at h => rhs; arg 1; whnf
  simp only [wpOp, h]
  rw [if_pos (by rfl)]
  left
  go_simp
  exact ⟨x, hI.put (see3_nodup p l q d now want pn px np nq _) 0 ho hd _ _ _ rfl (.inr (rfl)) (by intro e he; cases he; exact hz ▸ (by decide : (9 : Nat) < 60)) hI.wd⟩
theorem see3_1 (t0 : Array Value) (hz : t0.size = 60) (Q : Exit → Act → World → Prop) : RStepX Tryz.prog R_see3 (lay_see3 p l q d now want pn px np nq) t0 (fun x L => X x (L 19) (L 28) (L 29)) Q 1 := by
  intro x L o a w ho hL hd hI
  have d0 : L 0 = true := dep_spec ho hd (k := 0) (by kernel_rfl)
  have f9 : a.tmps[9]? = some (.pointer (some ⟨p, 0, none⟩)) := hI.at 0 rfl d0
  have h : R_see3[1]? = some R_see3[1] := rfl
  conv at h => rhs; arg 1; whnf
  simp only [wpOp, h]
  rw [if_pos (by rfl)]
  left
  go_simp
  exact ⟨x, hI.put (see3_nodup p l q d now want pn px np nq _) 1 ho hd _ _ _ rfl (.inr (rfl)) (by intro e he; cases he; exact hz ▸ (by decide : (10 : Nat) < 60)) hI.wd⟩
theorem see3_2 (t0 : Array Value) (hz : t0.size = 60) (Q : Exit → Act → World → Prop) : RStepX Tryz.prog R_see3 (lay_see3 p l q d now want pn px np nq) t0 (fun x L => X x (L 19) (L 28) (L 29)) Q 2 := by
  intro x L o a w ho hL hd hI
  have d1 : L 1 = true := dep_spec ho hd (k := 1) (by kernel_rfl)
  have f10 : a.tmps[10]? = some (.pointer (some ⟨p, 0, none⟩)) := hI.at 1 rfl d1
  have h : R_see3[2]? = some R_see3[2] := rfl
  conv at h => rhs; arg 1; whnf
  simp only [wpOp, h]
  rw [if_pos (by rfl)]
  left
  go_simp
  exact ⟨x, hI.put (see3_nodup p l q d now want pn px np nq _) 2 ho hd _ _ _ rfl (.inr (rfl)) (by intro e he; cases he; exact hz ▸ (by decide : (11 : Nat) < 60)) hI.wd⟩
theorem see3_3 (M3 : ∀ (x : ((Option Addr × Nat) × (Option Addr × Nat) × Nat)) (b0 : Bool) (b1 : Bool) (w : World), X x b0 b1 false w → w.cell? ⟨p, 20, none⟩ = some (.int .i64 now)) (t0 : Array Value) (hz : t0.size = 60) (Q : Exit → Act → World → Prop) : RStepX Tryz.prog R_see3 (lay_see3 p l q d now want pn px np nq) t0 (fun x L => X x (L 19) (L 28) (L 29)) Q 3 := by
  intro x L o a w ho hL hd hI
  have d2 : L 2 = true := dep_spec ho hd (k := 2) (by kernel_rfl)
  have f11 : a.tmps[11]? = some (.pointer (some ⟨p, 20, none⟩)) := hI.at 2 rfl d2
  have z29 : L 29 = false := by
    cases q29 : L 29 with
    | false => rfl
    | true =>
      have q3 : L 3 = true := hI.tr q29 (by kernel_rfl)
      rw [hL] at q3; cases q3
  have hw : X x (L 19) (L 28) (L 29) w := hI.wd
  rw [z29] at hw
  have hv := M3 x (L 19) (L 28) w hw
  have h : R_see3[3]? = some R_see3[3] := rfl
  conv at h => rhs; arg 1; whnf
  simp only [wpOp, h]
  rw [if_pos (by rfl)]
  left
  go_simp
  exact ⟨x, hI.put (see3_nodup p l q d now want pn px np nq _) 3 ho hd _ _ _ rfl (.inr (rfl)) (by intro e he; cases he; exact hz ▸ (by decide : (12 : Nat) < 60)) hI.wd⟩
theorem see3_4 (t0 : Array Value) (hz : t0.size = 60) (ht0 : t0[0]? = some (.pointer (some ⟨p, 0, none⟩))) (Q : Exit → Act → World → Prop) : RStepX Tryz.prog R_see3 (lay_see3 p l q d now want pn px np nq) t0 (fun x L => X x (L 19) (L 28) (L 29)) Q 4 := by
  intro x L o a w ho hL hd hI
  have f0 : a.tmps[0]? = some (.pointer (some ⟨p, 0, none⟩)) := hI.from ht0 rfl
  have h : R_see3[4]? = some R_see3[4] := rfl
  conv at h => rhs; arg 1; whnf
  simp only [wpOp, h]
  rw [if_pos (by rfl)]
  left
  go_simp
  exact ⟨x, hI.put (see3_nodup p l q d now want pn px np nq _) 4 ho hd _ _ _ rfl (.inr (rfl)) (by intro e he; cases he; exact hz ▸ (by decide : (13 : Nat) < 60)) hI.wd⟩
theorem see3_5 (t0 : Array Value) (hz : t0.size = 60) (Q : Exit → Act → World → Prop) : RStepX Tryz.prog R_see3 (lay_see3 p l q d now want pn px np nq) t0 (fun x L => X x (L 19) (L 28) (L 29)) Q 5 := by
  intro x L o a w ho hL hd hI
  have d4 : L 4 = true := dep_spec ho hd (k := 4) (by kernel_rfl)
  have f13 : a.tmps[13]? = some (.pointer (some ⟨p, 0, none⟩)) := hI.at 4 rfl d4
  have h : R_see3[5]? = some R_see3[5] := rfl
  conv at h => rhs; arg 1; whnf
  simp only [wpOp, h]
  rw [if_pos (by rfl)]
  left
  go_simp
  exact ⟨x, hI.put (see3_nodup p l q d now want pn px np nq _) 5 ho hd _ _ _ rfl (.inr (rfl)) (by intro e he; cases he; exact hz ▸ (by decide : (14 : Nat) < 60)) hI.wd⟩
theorem see3_6 (t0 : Array Value) (hz : t0.size = 60) (Q : Exit → Act → World → Prop) : RStepX Tryz.prog R_see3 (lay_see3 p l q d now want pn px np nq) t0 (fun x L => X x (L 19) (L 28) (L 29)) Q 6 := by
  intro x L o a w ho hL hd hI
  have d5 : L 5 = true := dep_spec ho hd (k := 5) (by kernel_rfl)
  have f14 : a.tmps[14]? = some (.pointer (some ⟨p, 0, none⟩)) := hI.at 5 rfl d5
  have h : R_see3[6]? = some R_see3[6] := rfl
  conv at h => rhs; arg 1; whnf
  simp only [wpOp, h]
  rw [if_pos (by rfl)]
  left
  go_simp
  exact ⟨x, hI.put (see3_nodup p l q d now want pn px np nq _) 6 ho hd _ _ _ rfl (.inr (rfl)) (by intro e he; cases he; exact hz ▸ (by decide : (15 : Nat) < 60)) hI.wd⟩
theorem see3_7 (M7 : ∀ (x : ((Option Addr × Nat) × (Option Addr × Nat) × Nat)) (b0 : Bool) (b1 : Bool) (w : World), X x b0 b1 false w → w.cell? ⟨p, 29, none⟩ = some (.int .i64 want)) (t0 : Array Value) (hz : t0.size = 60) (Q : Exit → Act → World → Prop) : RStepX Tryz.prog R_see3 (lay_see3 p l q d now want pn px np nq) t0 (fun x L => X x (L 19) (L 28) (L 29)) Q 7 := by
  intro x L o a w ho hL hd hI
  have d6 : L 6 = true := dep_spec ho hd (k := 6) (by kernel_rfl)
  have f15 : a.tmps[15]? = some (.pointer (some ⟨p, 29, none⟩)) := hI.at 6 rfl d6
  have z29 : L 29 = false := by
    cases q29 : L 29 with
    | false => rfl
    | true =>
      have q7 : L 7 = true := hI.tr q29 (by kernel_rfl)
      rw [hL] at q7; cases q7
  have hw : X x (L 19) (L 28) (L 29) w := hI.wd
  rw [z29] at hw
  have hv := M7 x (L 19) (L 28) w hw
  have h : R_see3[7]? = some R_see3[7] := rfl
  conv at h => rhs; arg 1; whnf
  simp only [wpOp, h]
  rw [if_pos (by rfl)]
  left
  go_simp
  exact ⟨x, hI.put (see3_nodup p l q d now want pn px np nq _) 7 ho hd _ _ _ rfl (.inr (rfl)) (by intro e he; cases he; exact hz ▸ (by decide : (16 : Nat) < 60)) hI.wd⟩
theorem see3_8 (t0 : Array Value) (hz : t0.size = 60) (ht0 : t0[0]? = some (.pointer (some ⟨p, 0, none⟩))) (Q : Exit → Act → World → Prop) : RStepX Tryz.prog R_see3 (lay_see3 p l q d now want pn px np nq) t0 (fun x L => X x (L 19) (L 28) (L 29)) Q 8 := by
  intro x L o a w ho hL hd hI
  have f0 : a.tmps[0]? = some (.pointer (some ⟨p, 0, none⟩)) := hI.from ht0 rfl
  have h : R_see3[8]? = some R_see3[8] := rfl
  conv at h => rhs; arg 1; whnf
  simp only [wpOp, h]
  rw [if_pos (by rfl)]
  left
  go_simp
  exact ⟨x, hI.put (see3_nodup p l q d now want pn px np nq _) 8 ho hd _ _ _ rfl (.inr (rfl)) (by intro e he; cases he; exact hz ▸ (by decide : (17 : Nat) < 60)) hI.wd⟩
theorem see3_9 (t0 : Array Value) (hz : t0.size = 60) (Q : Exit → Act → World → Prop) : RStepX Tryz.prog R_see3 (lay_see3 p l q d now want pn px np nq) t0 (fun x L => X x (L 19) (L 28) (L 29)) Q 9 := by
  intro x L o a w ho hL hd hI
  have d8 : L 8 = true := dep_spec ho hd (k := 8) (by kernel_rfl)
  have f17 : a.tmps[17]? = some (.pointer (some ⟨p, 0, none⟩)) := hI.at 8 rfl d8
  have h : R_see3[9]? = some R_see3[9] := rfl
  conv at h => rhs; arg 1; whnf
  simp only [wpOp, h]
  rw [if_pos (by rfl)]
  left
  go_simp
  exact ⟨x, hI.put (see3_nodup p l q d now want pn px np nq _) 9 ho hd _ _ _ rfl (.inr (rfl)) (by intro e he; cases he; exact hz ▸ (by decide : (18 : Nat) < 60)) hI.wd⟩
theorem see3_10 (t0 : Array Value) (hz : t0.size = 60) (Q : Exit → Act → World → Prop) : RStepX Tryz.prog R_see3 (lay_see3 p l q d now want pn px np nq) t0 (fun x L => X x (L 19) (L 28) (L 29)) Q 10 := by
  intro x L o a w ho hL hd hI
  have d9 : L 9 = true := dep_spec ho hd (k := 9) (by kernel_rfl)
  have f18 : a.tmps[18]? = some (.pointer (some ⟨p, 0, none⟩)) := hI.at 9 rfl d9
  have h : R_see3[10]? = some R_see3[10] := rfl
  conv at h => rhs; arg 1; whnf
  simp only [wpOp, h]
  rw [if_pos (by rfl)]
  left
  go_simp
  exact ⟨x, hI.put (see3_nodup p l q d now want pn px np nq _) 10 ho hd _ _ _ rfl (.inr (rfl)) (by intro e he; cases he; exact hz ▸ (by decide : (19 : Nat) < 60)) hI.wd⟩
theorem see3_11 (t0 : Array Value) (hz : t0.size = 60) (Q : Exit → Act → World → Prop) : RStepX Tryz.prog R_see3 (lay_see3 p l q d now want pn px np nq) t0 (fun x L => X x (L 19) (L 28) (L 29)) Q 11 := by
  intro x L o a w ho hL hd hI
  have d10 : L 10 = true := dep_spec ho hd (k := 10) (by kernel_rfl)
  have f19 : a.tmps[19]? = some (.pointer (some ⟨p, 23, none⟩)) := hI.at 10 rfl d10
  have h : R_see3[11]? = some R_see3[11] := rfl
  conv at h => rhs; arg 1; whnf
  simp only [wpOp, h]
  rw [if_pos (by rfl)]
  left
  go_simp
  exact ⟨x, hI.put (see3_nodup p l q d now want pn px np nq _) 11 ho hd _ _ _ rfl (.inr (rfl)) (by intro e he; cases he; exact hz ▸ (by decide : (20 : Nat) < 60)) hI.wd⟩
theorem see3_12 (M12 : ∀ (x : ((Option Addr × Nat) × (Option Addr × Nat) × Nat)) (b0 : Bool) (b1 : Bool) (w : World), X x b0 b1 false w → w.cell? ⟨p, 27, none⟩ = some (.bool pn)) (t0 : Array Value) (hz : t0.size = 60) (Q : Exit → Act → World → Prop) : RStepX Tryz.prog R_see3 (lay_see3 p l q d now want pn px np nq) t0 (fun x L => X x (L 19) (L 28) (L 29)) Q 12 := by
  intro x L o a w ho hL hd hI
  have d11 : L 11 = true := dep_spec ho hd (k := 11) (by kernel_rfl)
  have f20 : a.tmps[20]? = some (.pointer (some ⟨p, 27, none⟩)) := hI.at 11 rfl d11
  have z29 : L 29 = false := by
    cases q29 : L 29 with
    | false => rfl
    | true =>
      have q12 : L 12 = true := hI.tr q29 (by kernel_rfl)
      rw [hL] at q12; cases q12
  have hw : X x (L 19) (L 28) (L 29) w := hI.wd
  rw [z29] at hw
  have hv := M12 x (L 19) (L 28) w hw
  have h : R_see3[12]? = some R_see3[12] := rfl
  conv at h => rhs; arg 1; whnf
  simp only [wpOp, h]
  rw [if_pos (by rfl)]
  left
  go_simp
  exact ⟨x, hI.put (see3_nodup p l q d now want pn px np nq _) 12 ho hd _ _ _ rfl (.inr (rfl)) (by intro e he; cases he; exact hz ▸ (by decide : (21 : Nat) < 60)) hI.wd⟩
theorem see3_13 (t0 : Array Value) (hz : t0.size = 60) (ht0 : t0[0]? = some (.pointer (some ⟨p, 0, none⟩))) (Q : Exit → Act → World → Prop) : RStepX Tryz.prog R_see3 (lay_see3 p l q d now want pn px np nq) t0 (fun x L => X x (L 19) (L 28) (L 29)) Q 13 := by
  intro x L o a w ho hL hd hI
  have f0 : a.tmps[0]? = some (.pointer (some ⟨p, 0, none⟩)) := hI.from ht0 rfl
  have h : R_see3[13]? = some R_see3[13] := rfl
  conv at h => rhs; arg 1; whnf
  simp only [wpOp, h]
  rw [if_pos (by rfl)]
  left
  go_simp
  exact ⟨x, hI.put (see3_nodup p l q d now want pn px np nq _) 13 ho hd _ _ _ rfl (.inr (rfl)) (by intro e he; cases he; exact hz ▸ (by decide : (22 : Nat) < 60)) hI.wd⟩
theorem see3_14 (t0 : Array Value) (hz : t0.size = 60) (Q : Exit → Act → World → Prop) : RStepX Tryz.prog R_see3 (lay_see3 p l q d now want pn px np nq) t0 (fun x L => X x (L 19) (L 28) (L 29)) Q 14 := by
  intro x L o a w ho hL hd hI
  have d13 : L 13 = true := dep_spec ho hd (k := 13) (by kernel_rfl)
  have f22 : a.tmps[22]? = some (.pointer (some ⟨p, 0, none⟩)) := hI.at 13 rfl d13
  have h : R_see3[14]? = some R_see3[14] := rfl
  conv at h => rhs; arg 1; whnf
  simp only [wpOp, h]
  rw [if_pos (by rfl)]
  left
  go_simp
  exact ⟨x, hI.put (see3_nodup p l q d now want pn px np nq _) 14 ho hd _ _ _ rfl (.inr (rfl)) (by intro e he; cases he; exact hz ▸ (by decide : (23 : Nat) < 60)) hI.wd⟩
theorem see3_15 (t0 : Array Value) (hz : t0.size = 60) (Q : Exit → Act → World → Prop) : RStepX Tryz.prog R_see3 (lay_see3 p l q d now want pn px np nq) t0 (fun x L => X x (L 19) (L 28) (L 29)) Q 15 := by
  intro x L o a w ho hL hd hI
  have d14 : L 14 = true := dep_spec ho hd (k := 14) (by kernel_rfl)
  have f23 : a.tmps[23]? = some (.pointer (some ⟨p, 0, none⟩)) := hI.at 14 rfl d14
  have h : R_see3[15]? = some R_see3[15] := rfl
  conv at h => rhs; arg 1; whnf
  simp only [wpOp, h]
  rw [if_pos (by rfl)]
  left
  go_simp
  exact ⟨x, hI.put (see3_nodup p l q d now want pn px np nq _) 15 ho hd _ _ _ rfl (.inr (rfl)) (by intro e he; cases he; exact hz ▸ (by decide : (24 : Nat) < 60)) hI.wd⟩
theorem see3_16 (M16 : ∀ (x : ((Option Addr × Nat) × (Option Addr × Nat) × Nat)) (b0 : Bool) (b1 : Bool) (w : World), X x b0 b1 false w → w.cell? ⟨p, 30, none⟩ = some (.bool px)) (t0 : Array Value) (hz : t0.size = 60) (Q : Exit → Act → World → Prop) : RStepX Tryz.prog R_see3 (lay_see3 p l q d now want pn px np nq) t0 (fun x L => X x (L 19) (L 28) (L 29)) Q 16 := by
  intro x L o a w ho hL hd hI
  have d15 : L 15 = true := dep_spec ho hd (k := 15) (by kernel_rfl)
  have f24 : a.tmps[24]? = some (.pointer (some ⟨p, 30, none⟩)) := hI.at 15 rfl d15
  have z29 : L 29 = false := by
    cases q29 : L 29 with
    | false => rfl
    | true =>
      have q16 : L 16 = true := hI.tr q29 (by kernel_rfl)
      rw [hL] at q16; cases q16
  have hw : X x (L 19) (L 28) (L 29) w := hI.wd
  rw [z29] at hw
  have hv := M16 x (L 19) (L 28) w hw
  have h : R_see3[16]? = some R_see3[16] := rfl
  conv at h => rhs; arg 1; whnf
  simp only [wpOp, h]
  rw [if_pos (by rfl)]
  left
  go_simp
  exact ⟨x, hI.put (see3_nodup p l q d now want pn px np nq _) 16 ho hd _ _ _ rfl (.inr (rfl)) (by intro e he; cases he; exact hz ▸ (by decide : (25 : Nat) < 60)) hI.wd⟩
theorem see3_17 (t0 : Array Value) (hz : t0.size = 60) (ht0 : t0[0]? = some (.pointer (some ⟨p, 0, none⟩))) (Q : Exit → Act → World → Prop) : RStepX Tryz.prog R_see3 (lay_see3 p l q d now want pn px np nq) t0 (fun x L => X x (L 19) (L 28) (L 29)) Q 17 := by
  intro x L o a w ho hL hd hI
  have f0 : a.tmps[0]? = some (.pointer (some ⟨p, 0, none⟩)) := hI.from ht0 rfl
  have h : R_see3[17]? = some R_see3[17] := rfl
  conv at h => rhs; arg 1; whnf
  simp only [wpOp, h]
  rw [if_pos (by rfl)]
  left
  go_simp
  exact ⟨x, hI.put (see3_nodup p l q d now want pn px np nq _) 17 ho hd _ _ _ rfl (.inr (rfl)) (by intro e he; cases he; exact hz ▸ (by decide : (26 : Nat) < 60)) hI.wd⟩
theorem see3_18 (C18 : ∀ (x : ((Option Addr × Nat) × (Option Addr × Nat) × Nat)) (b1 : Bool) (w : World), X x false b1 false w → Calls Tryz.prog 21 #[.pointer (some ⟨p, 0, none⟩)] w fun e w' => e = .returned (.pointer (some ⟨l, 0, none⟩)) ∧ X x false b1 false w') (t0 : Array Value) (hz : t0.size = 60) (Q : Exit → Act → World → Prop) : RStepX Tryz.prog R_see3 (lay_see3 p l q d now want pn px np nq) t0 (fun x L => X x (L 19) (L 28) (L 29)) Q 18 := by
  intro x L o a w ho hL hd hI
  have d17 : L 17 = true := dep_spec ho hd (k := 17) (by kernel_rfl)
  have f26 : a.tmps[26]? = some (.pointer (some ⟨p, 0, none⟩)) := hI.at 17 rfl d17
  have z19 : L 19 = false := by
    cases q19 : L 19 with
    | false => rfl
    | true =>
      have q18 : L 18 = true := hI.tr q19 (by kernel_rfl)
      rw [hL] at q18; cases q18
  have z29 : L 29 = false := by
    cases q29 : L 29 with
    | false => rfl
    | true =>
      have q18 : L 18 = true := hI.tr q29 (by kernel_rfl)
      rw [hL] at q18; cases q18
  have hw : X x (L 19) (L 28) (L 29) w := hI.wd
  rw [z19, z29] at hw
  have h : R_see3[18]? = some R_see3[18] := rfl
  conv at h => rhs; arg 1; whnf
  simp only [wpOp, h]
  rw [if_pos (by rfl)]
  left
  go_simp
  refine (C18 x (L 28) w hw).mono ?_
  rintro e w' ⟨rfl, hx⟩
  have hx2 : X x (L 19) (L 28) (L 29) w' := by
    rw [z19, z29]
    exact hx
  exact ⟨x, ((hI.rewd (Wd' := fun _ _ => True) (w' := w) trivial).put (w' := w) (see3_nodup p l q d now want pn px np nq _) 18 ho hd _ _ _ rfl (.inr (rfl)) (by intro e he; cases he; exact hz ▸ (by decide : (27 : Nat) < 60)) trivial).rewd hx2⟩
theorem see3_19 (C19 : ∀ (x : ((Option Addr × Nat) × (Option Addr × Nat) × Nat)) (b1 : Bool) (w : World), X x false b1 false w → Calls Tryz.prog 32 #[.pointer (some ⟨l, 0, none⟩)] w fun e w' => ∃ y : (Option Addr × Nat), e = .returned (.slice (y.1) (np) (y.2)) ∧ X (y, x.2.1, x.2.2) true b1 false w') (t0 : Array Value) (hz : t0.size = 60) (Q : Exit → Act → World → Prop) : RStepX Tryz.prog R_see3 (lay_see3 p l q d now want pn px np nq) t0 (fun x L => X x (L 19) (L 28) (L 29)) Q 19 := by
  intro x L o a w ho hL hd hI
  have d18 : L 18 = true := dep_spec ho hd (k := 18) (by kernel_rfl)
  have f27 : a.tmps[27]? = some (.pointer (some ⟨l, 0, none⟩)) := hI.at 18 rfl d18
  have z19 : L 19 = false := hL
  have z29 : L 29 = false := by
    cases q29 : L 29 with
    | false => rfl
    | true =>
      have q19 : L 19 = true := hI.tr q29 (by kernel_rfl)
      rw [hL] at q19; cases q19
  have hw : X x (L 19) (L 28) (L 29) w := hI.wd
  rw [z19, z29] at hw
  have h : R_see3[19]? = some R_see3[19] := rfl
  conv at h => rhs; arg 1; whnf
  simp only [wpOp, h]
  rw [if_pos (by rfl)]
  left
  go_simp
  refine (C19 x (L 28) w hw).mono ?_
  rintro e w' ⟨y, rfl, hx⟩
  have hx2 : X (y, x.2.1, x.2.2) true (L 28) (L 29) w' := by
    rw [z29]
    exact hx
  have n27 : L 27 = false := by
    cases q27 : L 27 with
    | false => rfl
    | true =>
      have q19 : L 19 = true := hI.tr q27 (by kernel_rfl)
      rw [hL] at q19; cases q19
  have n29 : L 29 = false := by
    cases q29 : L 29 with
    | false => rfl
    | true =>
      have q19 : L 19 = true := hI.tr q29 (by kernel_rfl)
      rw [hL] at q19; cases q19
  have hsw : ∀ j, L j = true → ((lay_see3 p l q d now want pn px np nq) (y, x.2.1, x.2.2))[j]? = ((lay_see3 p l q d now want pn px np nq) x)[j]? := by
    intro j hj
    by_cases e19 : j = 19
    · subst e19; rw [hL] at hj; cases hj
    by_cases e27 : j = 27
    · subst e27; rw [n27] at hj; cases hj
    by_cases e29 : j = 29
    · subst e29; rw [n29] at hj; cases hj
    exact see3_swap19 p l q d now want pn px np nq x _ j e19 e27 e29
  have hp := (hI.swap (l' := (lay_see3 p l q d now want pn px np nq) (y, x.2.1, x.2.2)) rfl hsw)
  exact ⟨(y, x.2.1, x.2.2), (hp.put (w' := w) (see3_nodup p l q d now want pn px np nq _) 19 ho hd _ _ _ rfl (.inr (rfl)) (by intro e he; cases he; exact hz ▸ (by decide : (28 : Nat) < 60)) trivial).rewd hx2⟩
theorem see3_20 (t0 : Array Value) (hz : t0.size = 60) (ht0 : t0[0]? = some (.pointer (some ⟨p, 0, none⟩))) (Q : Exit → Act → World → Prop) : RStepX Tryz.prog R_see3 (lay_see3 p l q d now want pn px np nq) t0 (fun x L => X x (L 19) (L 28) (L 29)) Q 20 := by
  intro x L o a w ho hL hd hI
  have f0 : a.tmps[0]? = some (.pointer (some ⟨p, 0, none⟩)) := hI.from ht0 rfl
  have h : R_see3[20]? = some R_see3[20] := rfl
  conv at h => rhs; arg 1; whnf
  simp only [wpOp, h]
  rw [if_pos (by rfl)]
  left
  go_simp
  exact ⟨x, hI.put (see3_nodup p l q d now want pn px np nq _) 20 ho hd _ _ _ rfl (.inr (rfl)) (by intro e he; cases he; exact hz ▸ (by decide : (29 : Nat) < 60)) hI.wd⟩
theorem see3_21 (C21 : ∀ (x : ((Option Addr × Nat) × (Option Addr × Nat) × Nat)) (b1 : Bool) (w : World), X x true b1 false w → Calls Tryz.prog 33 #[.pointer (some ⟨p, 0, none⟩)] w fun e w' => e = .returned (.pointer (some ⟨q, 0, none⟩)) ∧ X x true b1 false w') (t0 : Array Value) (hz : t0.size = 60) (Q : Exit → Act → World → Prop) : RStepX Tryz.prog R_see3 (lay_see3 p l q d now want pn px np nq) t0 (fun x L => X x (L 19) (L 28) (L 29)) Q 21 := by
  intro x L o a w ho hL hd hI
  have d20 : L 20 = true := dep_spec ho hd (k := 20) (by kernel_rfl)
  have f29 : a.tmps[29]? = some (.pointer (some ⟨p, 0, none⟩)) := hI.at 20 rfl d20
  have y19 : L 19 = true := dep_spec ho hd (k := 19) (by kernel_rfl)
  have z19 : L 19 = true := y19
  have z29 : L 29 = false := by
    cases q29 : L 29 with
    | false => rfl
    | true =>
      have q21 : L 21 = true := hI.tr q29 (by kernel_rfl)
      rw [hL] at q21; cases q21
  have hw : X x (L 19) (L 28) (L 29) w := hI.wd
  rw [z19, z29] at hw
  have h : R_see3[21]? = some R_see3[21] := rfl
  conv at h => rhs; arg 1; whnf
  simp only [wpOp, h]
  rw [if_pos (by rfl)]
  left
  go_simp
  refine (C21 x (L 28) w hw).mono ?_
  rintro e w' ⟨rfl, hx⟩
  have hx2 : X x (L 19) (L 28) (L 29) w' := by
    rw [z19, z29]
    exact hx
  exact ⟨x, ((hI.rewd (Wd' := fun _ _ => True) (w' := w) trivial).put (w' := w) (see3_nodup p l q d now want pn px np nq _) 21 ho hd _ _ _ rfl (.inr (rfl)) (by intro e he; cases he; exact hz ▸ (by decide : (30 : Nat) < 60)) trivial).rewd hx2⟩
theorem see3_22 (C22 : ∀ (x : ((Option Addr × Nat) × (Option Addr × Nat) × Nat)) (b1 : Bool) (w : World), X x true b1 false w → Calls Tryz.prog 34 #[.pointer (some ⟨q, 0, none⟩)] w fun e w' => ∃ y : (Option Addr × Nat), e = .returned (.slice (y.1) (nq) (y.2)) ∧ X (x.1, y, x.2.2) true b1 false w') (t0 : Array Value) (hz : t0.size = 60) (Q : Exit → Act → World → Prop) : RStepX Tryz.prog R_see3 (lay_see3 p l q d now want pn px np nq) t0 (fun x L => X x (L 19) (L 28) (L 29)) Q 22 := by
  intro x L o a w ho hL hd hI
  have d21 : L 21 = true := dep_spec ho hd (k := 21) (by kernel_rfl)
  have f30 : a.tmps[30]? = some (.pointer (some ⟨q, 0, none⟩)) := hI.at 21 rfl d21
  have y21 : L 21 = true := dep_spec ho hd (k := 21) (by kernel_rfl)
  have y19 : L 19 = true := hI.tr y21 (by kernel_rfl)
  have z19 : L 19 = true := y19
  have z29 : L 29 = false := by
    cases q29 : L 29 with
    | false => rfl
    | true =>
      have q22 : L 22 = true := hI.tr q29 (by kernel_rfl)
      rw [hL] at q22; cases q22
  have hw : X x (L 19) (L 28) (L 29) w := hI.wd
  rw [z19, z29] at hw
  have h : R_see3[22]? = some R_see3[22] := rfl
  conv at h => rhs; arg 1; whnf
  simp only [wpOp, h]
  rw [if_pos (by rfl)]
  left
  go_simp
  refine (C22 x (L 28) w hw).mono ?_
  rintro e w' ⟨y, rfl, hx⟩
  have hx2 : X (x.1, y, x.2.2) (L 19) (L 28) (L 29) w' := by
    rw [z19, z29]
    exact hx
  have n23 : L 23 = false := by
    cases q23 : L 23 with
    | false => rfl
    | true =>
      have q22 : L 22 = true := hI.tr q23 (by kernel_rfl)
      rw [hL] at q22; cases q22
  have n27 : L 27 = false := by
    cases q27 : L 27 with
    | false => rfl
    | true =>
      have q23 : L 23 = true := hI.tr q27 (by kernel_rfl)
      have q22 : L 22 = true := hI.tr q23 (by kernel_rfl)
      rw [hL] at q22; cases q22
  have n29 : L 29 = false := by
    cases q29 : L 29 with
    | false => rfl
    | true =>
      have q22 : L 22 = true := hI.tr q29 (by kernel_rfl)
      rw [hL] at q22; cases q22
  have hsw : ∀ j, L j = true → ((lay_see3 p l q d now want pn px np nq) (x.1, y, x.2.2))[j]? = ((lay_see3 p l q d now want pn px np nq) x)[j]? := by
    intro j hj
    by_cases e22 : j = 22
    · subst e22; rw [hL] at hj; cases hj
    by_cases e23 : j = 23
    · subst e23; rw [n23] at hj; cases hj
    by_cases e27 : j = 27
    · subst e27; rw [n27] at hj; cases hj
    by_cases e29 : j = 29
    · subst e29; rw [n29] at hj; cases hj
    exact see3_swap22 p l q d now want pn px np nq x _ j e22 e23 e27 e29
  have hp := (hI.swap (l' := (lay_see3 p l q d now want pn px np nq) (x.1, y, x.2.2)) rfl hsw)
  exact ⟨(x.1, y, x.2.2), (hp.put (w' := w) (see3_nodup p l q d now want pn px np nq _) 22 ho hd _ _ _ rfl (.inr (rfl)) (by intro e he; cases he; exact hz ▸ (by decide : (31 : Nat) < 60)) trivial).rewd hx2⟩
theorem see3_23 (t0 : Array Value) (hz : t0.size = 60) (Q : Exit → Act → World → Prop) : RStepX Tryz.prog R_see3 (lay_see3 p l q d now want pn px np nq) t0 (fun x L => X x (L 19) (L 28) (L 29)) Q 23 := by
  intro x L o a w ho hL hd hI
  have d22 : L 22 = true := dep_spec ho hd (k := 22) (by kernel_rfl)
  have f31 : a.tmps[31]? = some (.slice (x.2.1.1) (nq) (x.2.1.2)) := hI.at 22 rfl d22
  have h : R_see3[23]? = some R_see3[23] := rfl
  conv at h => rhs; arg 1; whnf
  simp only [wpOp, h]
  rw [if_pos (by rfl)]
  left
  go_simp
  exact ⟨x, hI.put (see3_nodup p l q d now want pn px np nq _) 23 ho hd _ _ _ rfl (.inr (rfl)) (by intro e he; cases he; exact hz ▸ (by decide : (32 : Nat) < 60)) hI.wd⟩
theorem see3_24 (t0 : Array Value) (hz : t0.size = 60) (ht0 : t0[0]? = some (.pointer (some ⟨p, 0, none⟩))) (Q : Exit → Act → World → Prop) : RStepX Tryz.prog R_see3 (lay_see3 p l q d now want pn px np nq) t0 (fun x L => X x (L 19) (L 28) (L 29)) Q 24 := by
  intro x L o a w ho hL hd hI
  have f0 : a.tmps[0]? = some (.pointer (some ⟨p, 0, none⟩)) := hI.from ht0 rfl
  have h : R_see3[24]? = some R_see3[24] := rfl
  conv at h => rhs; arg 1; whnf
  simp only [wpOp, h]
  rw [if_pos (by rfl)]
  left
  go_simp
  exact ⟨x, hI.put (see3_nodup p l q d now want pn px np nq _) 24 ho hd _ _ _ rfl (.inr (rfl)) (by intro e he; cases he; exact hz ▸ (by decide : (33 : Nat) < 60)) hI.wd⟩
theorem see3_25 (C25 : ∀ (x : ((Option Addr × Nat) × (Option Addr × Nat) × Nat)) (b1 : Bool) (w : World), X x true b1 false w → Calls Tryz.prog 35 #[.pointer (some ⟨p, 0, none⟩)] w fun e w' => e = .returned (.pointer (some ⟨d, 0, none⟩)) ∧ X x true b1 false w') (t0 : Array Value) (hz : t0.size = 60) (Q : Exit → Act → World → Prop) : RStepX Tryz.prog R_see3 (lay_see3 p l q d now want pn px np nq) t0 (fun x L => X x (L 19) (L 28) (L 29)) Q 25 := by
  intro x L o a w ho hL hd hI
  have d24 : L 24 = true := dep_spec ho hd (k := 24) (by kernel_rfl)
  have f33 : a.tmps[33]? = some (.pointer (some ⟨p, 0, none⟩)) := hI.at 24 rfl d24
  have y22 : L 22 = true := dep_spec ho hd (k := 22) (by kernel_rfl)
  have y21 : L 21 = true := hI.tr y22 (by kernel_rfl)
  have y19 : L 19 = true := hI.tr y21 (by kernel_rfl)
  have z19 : L 19 = true := y19
  have z29 : L 29 = false := by
    cases q29 : L 29 with
    | false => rfl
    | true =>
      have q25 : L 25 = true := hI.tr q29 (by kernel_rfl)
      rw [hL] at q25; cases q25
  have hw : X x (L 19) (L 28) (L 29) w := hI.wd
  rw [z19, z29] at hw
  have h : R_see3[25]? = some R_see3[25] := rfl
  conv at h => rhs; arg 1; whnf
  simp only [wpOp, h]
  rw [if_pos (by rfl)]
  left
  go_simp
  refine (C25 x (L 28) w hw).mono ?_
  rintro e w' ⟨rfl, hx⟩
  have hx2 : X x (L 19) (L 28) (L 29) w' := by
    rw [z19, z29]
    exact hx
  exact ⟨x, ((hI.rewd (Wd' := fun _ _ => True) (w' := w) trivial).put (w' := w) (see3_nodup p l q d now want pn px np nq _) 25 ho hd _ _ _ rfl (.inr (rfl)) (by intro e he; cases he; exact hz ▸ (by decide : (34 : Nat) < 60)) trivial).rewd hx2⟩
theorem see3_26 (C26 : ∀ (x : ((Option Addr × Nat) × (Option Addr × Nat) × Nat)) (b1 : Bool) (w : World), X x true b1 false w → Calls Tryz.prog 36 #[.pointer (some ⟨d, 0, none⟩)] w fun e w' => e = .returned (.bool false) ∧ X x true b1 false w') (t0 : Array Value) (hz : t0.size = 60) (Q : Exit → Act → World → Prop) : RStepX Tryz.prog R_see3 (lay_see3 p l q d now want pn px np nq) t0 (fun x L => X x (L 19) (L 28) (L 29)) Q 26 := by
  intro x L o a w ho hL hd hI
  have d25 : L 25 = true := dep_spec ho hd (k := 25) (by kernel_rfl)
  have f34 : a.tmps[34]? = some (.pointer (some ⟨d, 0, none⟩)) := hI.at 25 rfl d25
  have y25 : L 25 = true := dep_spec ho hd (k := 25) (by kernel_rfl)
  have y22 : L 22 = true := hI.tr y25 (by kernel_rfl)
  have y21 : L 21 = true := hI.tr y22 (by kernel_rfl)
  have y19 : L 19 = true := hI.tr y21 (by kernel_rfl)
  have z19 : L 19 = true := y19
  have z29 : L 29 = false := by
    cases q29 : L 29 with
    | false => rfl
    | true =>
      have q26 : L 26 = true := hI.tr q29 (by kernel_rfl)
      rw [hL] at q26; cases q26
  have hw : X x (L 19) (L 28) (L 29) w := hI.wd
  rw [z19, z29] at hw
  have h : R_see3[26]? = some R_see3[26] := rfl
  conv at h => rhs; arg 1; whnf
  simp only [wpOp, h]
  rw [if_pos (by rfl)]
  left
  go_simp
  refine (C26 x (L 28) w hw).mono ?_
  rintro e w' ⟨rfl, hx⟩
  have hx2 : X x (L 19) (L 28) (L 29) w' := by
    rw [z19, z29]
    exact hx
  exact ⟨x, ((hI.rewd (Wd' := fun _ _ => True) (w' := w) trivial).put (w' := w) (see3_nodup p l q d now want pn px np nq _) 26 ho hd _ _ _ rfl (.inr (rfl)) (by intro e he; cases he; exact hz ▸ (by decide : (35 : Nat) < 60)) trivial).rewd hx2⟩
theorem see3_27 (t0 : Array Value) (hz : t0.size = 60) (Q : Exit → Act → World → Prop) : RStepX Tryz.prog R_see3 (lay_see3 p l q d now want pn px np nq) t0 (fun x L => X x (L 19) (L 28) (L 29)) Q 27 := by
  intro x L o a w ho hL hd hI
  have d3 : L 3 = true := dep_spec ho hd (k := 3) (by kernel_rfl)
  have f12 : a.tmps[12]? = some (.int .i64 now) := hI.at 3 rfl d3
  have d7 : L 7 = true := dep_spec ho hd (k := 7) (by kernel_rfl)
  have f16 : a.tmps[16]? = some (.int .i64 want) := hI.at 7 rfl d7
  have d12 : L 12 = true := dep_spec ho hd (k := 12) (by kernel_rfl)
  have f21 : a.tmps[21]? = some (.bool pn) := hI.at 12 rfl d12
  have d16 : L 16 = true := dep_spec ho hd (k := 16) (by kernel_rfl)
  have f25 : a.tmps[25]? = some (.bool px) := hI.at 16 rfl d16
  have d19 : L 19 = true := dep_spec ho hd (k := 19) (by kernel_rfl)
  have f28 : a.tmps[28]? = some (.slice (x.1.1) (np) (x.1.2)) := hI.at 19 rfl d19
  have d23 : L 23 = true := dep_spec ho hd (k := 23) (by kernel_rfl)
  have f32 : a.tmps[32]? = some (.int .i64 (nq)) := hI.at 23 rfl d23
  have d26 : L 26 = true := dep_spec ho hd (k := 26) (by kernel_rfl)
  have f35 : a.tmps[35]? = some (.bool false) := hI.at 26 rfl d26
  have h : R_see3[27]? = some R_see3[27] := rfl
  conv at h => rhs; arg 1; whnf
  simp only [wpOp, h]
  rw [if_pos (by rfl)]
  left
  go_simp
  exact ⟨x, hI.put (see3_nodup p l q d now want pn px np nq _) 27 ho hd _ _ _ rfl (.inr (rfl)) (by intro e he; cases he; exact hz ▸ (by decide : (36 : Nat) < 60)) hI.wd⟩
theorem see3_28 (B28 : ∀ (x : ((Option Addr × Nat) × (Option Addr × Nat) × Nat)) (b0 : Bool) (w : World), X x b0 false false w → X (x.1, x.2.1, w.heap.size) b0 true false (w.alloc (.cells #[.int .i64 0, .int .i64 0, .bool false, .bool false, .slice none 0 0, .int .i64 0, .int .i64 0, .int .i64 0, .int .i64 0, .int .i64 0, .int .i64 0, .int .i64 0, .int .i64 0, .int .i64 0, .bool false] 38))) (t0 : Array Value) (hz : t0.size = 60) (Q : Exit → Act → World → Prop) : RStepX Tryz.prog R_see3 (lay_see3 p l q d now want pn px np nq) t0 (fun x L => X x (L 19) (L 28) (L 29)) Q 28 := by
  intro x L o a w ho hL hd hI
  have z28 : L 28 = false := hL
  have z29 : L 29 = false := by
    cases q29 : L 29 with
    | false => rfl
    | true =>
      have q28 : L 28 = true := hI.tr q29 (by kernel_rfl)
      rw [hL] at q28; cases q28
  have hw : X x (L 19) (L 28) (L 29) w := hI.wd
  rw [z28, z29] at hw
  have hv := B28 x (L 19) w hw
  have h : R_see3[28]? = some R_see3[28] := rfl
  conv at h => rhs; arg 1; whnf
  simp only [wpOp, h]
  rw [if_pos (by rfl)]
  left
  go_simp
  have hx2 : X (x.1, x.2.1, w.heap.size) (L 19) true (L 29) (w.alloc (.cells #[.int .i64 0, .int .i64 0, .bool false, .bool false, .slice none 0 0, .int .i64 0, .int .i64 0, .int .i64 0, .int .i64 0, .int .i64 0, .int .i64 0, .int .i64 0, .int .i64 0, .int .i64 0, .bool false] 38)) := by
    rw [z29]
    exact hv
  have n29 : L 29 = false := by
    cases q29 : L 29 with
    | false => rfl
    | true =>
      have q28 : L 28 = true := hI.tr q29 (by kernel_rfl)
      rw [hL] at q28; cases q28
  have hsw : ∀ j, L j = true → ((lay_see3 p l q d now want pn px np nq) (x.1, x.2.1, w.heap.size))[j]? = ((lay_see3 p l q d now want pn px np nq) x)[j]? := by
    intro j hj
    by_cases e28 : j = 28
    · subst e28; rw [hL] at hj; cases hj
    by_cases e29 : j = 29
    · subst e29; rw [n29] at hj; cases hj
    exact see3_swap28 p l q d now want pn px np nq x _ j e28 e29
  have hp := (hI.swap (l' := (lay_see3 p l q d now want pn px np nq) (x.1, x.2.1, w.heap.size)) rfl hsw)
  exact ⟨(x.1, x.2.1, w.heap.size), (hp.put (w' := w) (see3_nodup p l q d now want pn px np nq _) 28 ho hd _ _ _ rfl (.inr (rfl)) (by intro e he; cases he; exact hz ▸ (by decide : (3 : Nat) < 60)) trivial).rewd hx2⟩
theorem see3_29 (S29 : ∀ (x : ((Option Addr × Nat) × (Option Addr × Nat) × Nat)) (w : World), X x true true false w → ∃ u0 u1 u2 u3 u4 u5 u6 u7 u8 u9 u10 u11 u12 u13 u14, w.cell? ⟨x.2.2, 0, none⟩ = some u0 ∧ w.cell? ⟨x.2.2, 1, none⟩ = some u1 ∧ w.cell? ⟨x.2.2, 2, none⟩ = some u2 ∧ w.cell? ⟨x.2.2, 3, none⟩ = some u3 ∧ w.cell? ⟨x.2.2, 4, none⟩ = some u4 ∧ w.cell? ⟨x.2.2, 5, none⟩ = some u5 ∧ w.cell? ⟨x.2.2, 6, none⟩ = some u6 ∧ w.cell? ⟨x.2.2, 7, none⟩ = some u7 ∧ w.cell? ⟨x.2.2, 8, none⟩ = some u8 ∧ w.cell? ⟨x.2.2, 9, none⟩ = some u9 ∧ w.cell? ⟨x.2.2, 10, none⟩ = some u10 ∧ w.cell? ⟨x.2.2, 11, none⟩ = some u11 ∧ w.cell? ⟨x.2.2, 12, none⟩ = some u12 ∧ w.cell? ⟨x.2.2, 13, none⟩ = some u13 ∧ w.cell? ⟨x.2.2, 14, none⟩ = some u14 ∧ w.frozen? ⟨x.2.2, 0, none⟩ = false ∧ w.frozen? ⟨x.2.2, 1, none⟩ = false ∧ w.frozen? ⟨x.2.2, 2, none⟩ = false ∧ w.frozen? ⟨x.2.2, 3, none⟩ = false ∧ w.frozen? ⟨x.2.2, 4, none⟩ = false ∧ w.frozen? ⟨x.2.2, 5, none⟩ = false ∧ w.frozen? ⟨x.2.2, 6, none⟩ = false ∧ w.frozen? ⟨x.2.2, 7, none⟩ = false ∧ w.frozen? ⟨x.2.2, 8, none⟩ = false ∧ w.frozen? ⟨x.2.2, 9, none⟩ = false ∧ w.frozen? ⟨x.2.2, 10, none⟩ = false ∧ w.frozen? ⟨x.2.2, 11, none⟩ = false ∧ w.frozen? ⟨x.2.2, 12, none⟩ = false ∧ w.frozen? ⟨x.2.2, 13, none⟩ = false ∧ w.frozen? ⟨x.2.2, 14, none⟩ = false ∧ X x true true true (((((((((((((((w.setCell ⟨x.2.2, 0, none⟩ (.int .i64 now)).setCell ⟨x.2.2, 1, none⟩ (.int .i64 want)).setCell ⟨x.2.2, 2, none⟩ (.bool pn)).setCell ⟨x.2.2, 3, none⟩ (.bool px)).setCell ⟨x.2.2, 4, none⟩ (.slice (x.1.1) (np) (x.1.2))).setCell ⟨x.2.2, 5, none⟩ (.int .i64 nq)).setCell ⟨x.2.2, 6, none⟩ (.int .i64 0)).setCell ⟨x.2.2, 7, none⟩ (.int .i64 0)).setCell ⟨x.2.2, 8, none⟩ (.int .i64 0)).setCell ⟨x.2.2, 9, none⟩ (.int .i64 0)).setCell ⟨x.2.2, 10, none⟩ (.int .i64 0)).setCell ⟨x.2.2, 11, none⟩ (.int .i64 0)).setCell ⟨x.2.2, 12, none⟩ (.int .i64 0)).setCell ⟨x.2.2, 13, none⟩ (.int .i64 0)).setCell ⟨x.2.2, 14, none⟩ (.bool false))) (t0 : Array Value) (hz : t0.size = 60) (Q : Exit → Act → World → Prop) : RStepX Tryz.prog R_see3 (lay_see3 p l q d now want pn px np nq) t0 (fun x L => X x (L 19) (L 28) (L 29)) Q 29 := by
  intro x L o a w ho hL hd hI
  have _ := hz
  have d28 : L 28 = true := dep_spec ho hd (k := 28) (by kernel_rfl)
  have f3 : a.tmps[3]? = some (.pointer (some ⟨x.2.2, 0, none⟩)) := hI.at 28 rfl d28
  have d27 : L 27 = true := dep_spec ho hd (k := 27) (by kernel_rfl)
  have f36 : a.tmps[36]? = some (.agg #[.int .i64 now, .int .i64 want, .bool pn, .bool px, .slice (x.1.1) (np) (x.1.2), .int .i64 nq, .int .i64 0, .int .i64 0, .int .i64 0, .int .i64 0, .int .i64 0, .int .i64 0, .int .i64 0, .int .i64 0, .bool false]) := hI.at 27 rfl d27
  have y19 : L 19 = true := dep_spec ho hd (k := 19) (by kernel_rfl)
  have z19 : L 19 = true := y19
  have y28 : L 28 = true := dep_spec ho hd (k := 28) (by kernel_rfl)
  have z28 : L 28 = true := y28
  have z29 : L 29 = false := hL
  have hw : X x (L 19) (L 28) (L 29) w := hI.wd
  rw [z19, z28, z29] at hw
  obtain ⟨u0, u1, u2, u3, u4, u5, u6, u7, u8, u9, u10, u11, u12, u13, u14, c0, c1, c2, c3, c4, c5, c6, c7, c8, c9, c10, c11, c12, c13, c14, g0, g1, g2, g3, g4, g5, g6, g7, g8, g9, g10, g11, g12, g13, g14, hx⟩ := S29 x  w hw
  have h : R_see3[29]? = some R_see3[29] := rfl
  conv at h => rhs; arg 1; whnf
  simp only [wpOp, h]
  rw [if_pos (by rfl)]
  left
  go_simp
  have hx2 : X x (L 19) (L 28) true (((((((((((((((w.setCell ⟨x.2.2, 0, none⟩ (.int .i64 now)).setCell ⟨x.2.2, 1, none⟩ (.int .i64 want)).setCell ⟨x.2.2, 2, none⟩ (.bool pn)).setCell ⟨x.2.2, 3, none⟩ (.bool px)).setCell ⟨x.2.2, 4, none⟩ (.slice (x.1.1) (np) (x.1.2))).setCell ⟨x.2.2, 5, none⟩ (.int .i64 nq)).setCell ⟨x.2.2, 6, none⟩ (.int .i64 0)).setCell ⟨x.2.2, 7, none⟩ (.int .i64 0)).setCell ⟨x.2.2, 8, none⟩ (.int .i64 0)).setCell ⟨x.2.2, 9, none⟩ (.int .i64 0)).setCell ⟨x.2.2, 10, none⟩ (.int .i64 0)).setCell ⟨x.2.2, 11, none⟩ (.int .i64 0)).setCell ⟨x.2.2, 12, none⟩ (.int .i64 0)).setCell ⟨x.2.2, 13, none⟩ (.int .i64 0)).setCell ⟨x.2.2, 14, none⟩ (.bool false)) := by
    rw [z19, z28]
    exact hx
  exact ⟨x, ((hI.rewd (Wd' := fun _ _ => True) (w' := w) trivial).put (w' := w) (see3_nodup p l q d now want pn px np nq _) 29 ho hd none undef undef rfl (.inl rfl) (by intro e he; cases he) trivial).rewd hx2⟩
theorem see3_step (M3 : ∀ (x : ((Option Addr × Nat) × (Option Addr × Nat) × Nat)) (b0 : Bool) (b1 : Bool) (w : World), X x b0 b1 false w → w.cell? ⟨p, 20, none⟩ = some (.int .i64 now)) (M7 : ∀ (x : ((Option Addr × Nat) × (Option Addr × Nat) × Nat)) (b0 : Bool) (b1 : Bool) (w : World), X x b0 b1 false w → w.cell? ⟨p, 29, none⟩ = some (.int .i64 want)) (M12 : ∀ (x : ((Option Addr × Nat) × (Option Addr × Nat) × Nat)) (b0 : Bool) (b1 : Bool) (w : World), X x b0 b1 false w → w.cell? ⟨p, 27, none⟩ = some (.bool pn)) (M16 : ∀ (x : ((Option Addr × Nat) × (Option Addr × Nat) × Nat)) (b0 : Bool) (b1 : Bool) (w : World), X x b0 b1 false w → w.cell? ⟨p, 30, none⟩ = some (.bool px)) (C18 : ∀ (x : ((Option Addr × Nat) × (Option Addr × Nat) × Nat)) (b1 : Bool) (w : World), X x false b1 false w → Calls Tryz.prog 21 #[.pointer (some ⟨p, 0, none⟩)] w fun e w' => e = .returned (.pointer (some ⟨l, 0, none⟩)) ∧ X x false b1 false w') (C19 : ∀ (x : ((Option Addr × Nat) × (Option Addr × Nat) × Nat)) (b1 : Bool) (w : World), X x false b1 false w → Calls Tryz.prog 32 #[.pointer (some ⟨l, 0, none⟩)] w fun e w' => ∃ y : (Option Addr × Nat), e = .returned (.slice (y.1) (np) (y.2)) ∧ X (y, x.2.1, x.2.2) true b1 false w') (C21 : ∀ (x : ((Option Addr × Nat) × (Option Addr × Nat) × Nat)) (b1 : Bool) (w : World), X x true b1 false w → Calls Tryz.prog 33 #[.pointer (some ⟨p, 0, none⟩)] w fun e w' => e = .returned (.pointer (some ⟨q, 0, none⟩)) ∧ X x true b1 false w') (C22 : ∀ (x : ((Option Addr × Nat) × (Option Addr × Nat) × Nat)) (b1 : Bool) (w : World), X x true b1 false w → Calls Tryz.prog 34 #[.pointer (some ⟨q, 0, none⟩)] w fun e w' => ∃ y : (Option Addr × Nat), e = .returned (.slice (y.1) (nq) (y.2)) ∧ X (x.1, y, x.2.2) true b1 false w') (C25 : ∀ (x : ((Option Addr × Nat) × (Option Addr × Nat) × Nat)) (b1 : Bool) (w : World), X x true b1 false w → Calls Tryz.prog 35 #[.pointer (some ⟨p, 0, none⟩)] w fun e w' => e = .returned (.pointer (some ⟨d, 0, none⟩)) ∧ X x true b1 false w') (C26 : ∀ (x : ((Option Addr × Nat) × (Option Addr × Nat) × Nat)) (b1 : Bool) (w : World), X x true b1 false w → Calls Tryz.prog 36 #[.pointer (some ⟨d, 0, none⟩)] w fun e w' => e = .returned (.bool false) ∧ X x true b1 false w') (B28 : ∀ (x : ((Option Addr × Nat) × (Option Addr × Nat) × Nat)) (b0 : Bool) (w : World), X x b0 false false w → X (x.1, x.2.1, w.heap.size) b0 true false (w.alloc (.cells #[.int .i64 0, .int .i64 0, .bool false, .bool false, .slice none 0 0, .int .i64 0, .int .i64 0, .int .i64 0, .int .i64 0, .int .i64 0, .int .i64 0, .int .i64 0, .int .i64 0, .int .i64 0, .bool false] 38))) (S29 : ∀ (x : ((Option Addr × Nat) × (Option Addr × Nat) × Nat)) (w : World), X x true true false w → ∃ u0 u1 u2 u3 u4 u5 u6 u7 u8 u9 u10 u11 u12 u13 u14, w.cell? ⟨x.2.2, 0, none⟩ = some u0 ∧ w.cell? ⟨x.2.2, 1, none⟩ = some u1 ∧ w.cell? ⟨x.2.2, 2, none⟩ = some u2 ∧ w.cell? ⟨x.2.2, 3, none⟩ = some u3 ∧ w.cell? ⟨x.2.2, 4, none⟩ = some u4 ∧ w.cell? ⟨x.2.2, 5, none⟩ = some u5 ∧ w.cell? ⟨x.2.2, 6, none⟩ = some u6 ∧ w.cell? ⟨x.2.2, 7, none⟩ = some u7 ∧ w.cell? ⟨x.2.2, 8, none⟩ = some u8 ∧ w.cell? ⟨x.2.2, 9, none⟩ = some u9 ∧ w.cell? ⟨x.2.2, 10, none⟩ = some u10 ∧ w.cell? ⟨x.2.2, 11, none⟩ = some u11 ∧ w.cell? ⟨x.2.2, 12, none⟩ = some u12 ∧ w.cell? ⟨x.2.2, 13, none⟩ = some u13 ∧ w.cell? ⟨x.2.2, 14, none⟩ = some u14 ∧ w.frozen? ⟨x.2.2, 0, none⟩ = false ∧ w.frozen? ⟨x.2.2, 1, none⟩ = false ∧ w.frozen? ⟨x.2.2, 2, none⟩ = false ∧ w.frozen? ⟨x.2.2, 3, none⟩ = false ∧ w.frozen? ⟨x.2.2, 4, none⟩ = false ∧ w.frozen? ⟨x.2.2, 5, none⟩ = false ∧ w.frozen? ⟨x.2.2, 6, none⟩ = false ∧ w.frozen? ⟨x.2.2, 7, none⟩ = false ∧ w.frozen? ⟨x.2.2, 8, none⟩ = false ∧ w.frozen? ⟨x.2.2, 9, none⟩ = false ∧ w.frozen? ⟨x.2.2, 10, none⟩ = false ∧ w.frozen? ⟨x.2.2, 11, none⟩ = false ∧ w.frozen? ⟨x.2.2, 12, none⟩ = false ∧ w.frozen? ⟨x.2.2, 13, none⟩ = false ∧ w.frozen? ⟨x.2.2, 14, none⟩ = false ∧ X x true true true (((((((((((((((w.setCell ⟨x.2.2, 0, none⟩ (.int .i64 now)).setCell ⟨x.2.2, 1, none⟩ (.int .i64 want)).setCell ⟨x.2.2, 2, none⟩ (.bool pn)).setCell ⟨x.2.2, 3, none⟩ (.bool px)).setCell ⟨x.2.2, 4, none⟩ (.slice (x.1.1) (np) (x.1.2))).setCell ⟨x.2.2, 5, none⟩ (.int .i64 nq)).setCell ⟨x.2.2, 6, none⟩ (.int .i64 0)).setCell ⟨x.2.2, 7, none⟩ (.int .i64 0)).setCell ⟨x.2.2, 8, none⟩ (.int .i64 0)).setCell ⟨x.2.2, 9, none⟩ (.int .i64 0)).setCell ⟨x.2.2, 10, none⟩ (.int .i64 0)).setCell ⟨x.2.2, 11, none⟩ (.int .i64 0)).setCell ⟨x.2.2, 12, none⟩ (.int .i64 0)).setCell ⟨x.2.2, 13, none⟩ (.int .i64 0)).setCell ⟨x.2.2, 14, none⟩ (.bool false))) (t0 : Array Value) (hz : t0.size = 60) (ht0 : t0[0]? = some (.pointer (some ⟨p, 0, none⟩))) (Q : Exit → Act → World → Prop) : ∀ i, i < 30 → RStepX Tryz.prog R_see3 (lay_see3 p l q d now want pn px np nq) t0 (fun x L => X x (L 19) (L 28) (L 29)) Q i
  | 0, _ => see3_0 p l q d now want pn px np nq X   t0 hz ht0 Q
  | 1, _ => see3_1 p l q d now want pn px np nq X   t0 hz  Q
  | 2, _ => see3_2 p l q d now want pn px np nq X   t0 hz  Q
  | 3, _ => see3_3 p l q d now want pn px np nq X  M3 t0 hz  Q
  | 4, _ => see3_4 p l q d now want pn px np nq X   t0 hz ht0 Q
  | 5, _ => see3_5 p l q d now want pn px np nq X   t0 hz  Q
  | 6, _ => see3_6 p l q d now want pn px np nq X   t0 hz  Q
  | 7, _ => see3_7 p l q d now want pn px np nq X  M7 t0 hz  Q
  | 8, _ => see3_8 p l q d now want pn px np nq X   t0 hz ht0 Q
  | 9, _ => see3_9 p l q d now want pn px np nq X   t0 hz  Q
  | 10, _ => see3_10 p l q d now want pn px np nq X   t0 hz  Q
  | 11, _ => see3_11 p l q d now want pn px np nq X   t0 hz  Q
  | 12, _ => see3_12 p l q d now want pn px np nq X  M12 t0 hz  Q
  | 13, _ => see3_13 p l q d now want pn px np nq X   t0 hz ht0 Q
  | 14, _ => see3_14 p l q d now want pn px np nq X   t0 hz  Q
  | 15, _ => see3_15 p l q d now want pn px np nq X   t0 hz  Q
  | 16, _ => see3_16 p l q d now want pn px np nq X  M16 t0 hz  Q
  | 17, _ => see3_17 p l q d now want pn px np nq X   t0 hz ht0 Q
  | 18, _ => see3_18 p l q d now want pn px np nq X  C18 t0 hz  Q
  | 19, _ => see3_19 p l q d now want pn px np nq X  C19 t0 hz  Q
  | 20, _ => see3_20 p l q d now want pn px np nq X   t0 hz ht0 Q
  | 21, _ => see3_21 p l q d now want pn px np nq X  C21 t0 hz  Q
  | 22, _ => see3_22 p l q d now want pn px np nq X  C22 t0 hz  Q
  | 23, _ => see3_23 p l q d now want pn px np nq X   t0 hz  Q
  | 24, _ => see3_24 p l q d now want pn px np nq X   t0 hz ht0 Q
  | 25, _ => see3_25 p l q d now want pn px np nq X  C25 t0 hz  Q
  | 26, _ => see3_26 p l q d now want pn px np nq X  C26 t0 hz  Q
  | 27, _ => see3_27 p l q d now want pn px np nq X   t0 hz  Q
  | 28, _ => see3_28 p l q d now want pn px np nq X  B28 t0 hz  Q
  | 29, _ => see3_29 p l q d now want pn px np nq X  S29 t0 hz  Q
  | k + 30, h => absurd h (by omega)
end
theorem see3_at {ops : Array Oper} (ho : ops = R_see3) (p : Nat) (l : Nat) (q : Nat) (d : Nat) (now : Int) (want : Int) (pn : Bool) (px : Bool) (np : Nat) (nq : Nat) (X : ((Option Addr × Nat) × (Option Addr × Nat) × Nat) → Bool → Bool → Bool → World → Prop)  (M3 : ∀ (x : ((Option Addr × Nat) × (Option Addr × Nat) × Nat)) (b0 : Bool) (b1 : Bool) (w : World), X x b0 b1 false w → w.cell? ⟨p, 20, none⟩ = some (.int .i64 now)) (M7 : ∀ (x : ((Option Addr × Nat) × (Option Addr × Nat) × Nat)) (b0 : Bool) (b1 : Bool) (w : World), X x b0 b1 false w → w.cell? ⟨p, 29, none⟩ = some (.int .i64 want)) (M12 : ∀ (x : ((Option Addr × Nat) × (Option Addr × Nat) × Nat)) (b0 : Bool) (b1 : Bool) (w : World), X x b0 b1 false w → w.cell? ⟨p, 27, none⟩ = some (.bool pn)) (M16 : ∀ (x : ((Option Addr × Nat) × (Option Addr × Nat) × Nat)) (b0 : Bool) (b1 : Bool) (w : World), X x b0 b1 false w → w.cell? ⟨p, 30, none⟩ = some (.bool px)) (C18 : ∀ (x : ((Option Addr × Nat) × (Option Addr × Nat) × Nat)) (b1 : Bool) (w : World), X x false b1 false w → Calls Tryz.prog 21 #[.pointer (some ⟨p, 0, none⟩)] w fun e w' => e = .returned (.pointer (some ⟨l, 0, none⟩)) ∧ X x false b1 false w') (C19 : ∀ (x : ((Option Addr × Nat) × (Option Addr × Nat) × Nat)) (b1 : Bool) (w : World), X x false b1 false w → Calls Tryz.prog 32 #[.pointer (some ⟨l, 0, none⟩)] w fun e w' => ∃ y : (Option Addr × Nat), e = .returned (.slice (y.1) (np) (y.2)) ∧ X (y, x.2.1, x.2.2) true b1 false w') (C21 : ∀ (x : ((Option Addr × Nat) × (Option Addr × Nat) × Nat)) (b1 : Bool) (w : World), X x true b1 false w → Calls Tryz.prog 33 #[.pointer (some ⟨p, 0, none⟩)] w fun e w' => e = .returned (.pointer (some ⟨q, 0, none⟩)) ∧ X x true b1 false w') (C22 : ∀ (x : ((Option Addr × Nat) × (Option Addr × Nat) × Nat)) (b1 : Bool) (w : World), X x true b1 false w → Calls Tryz.prog 34 #[.pointer (some ⟨q, 0, none⟩)] w fun e w' => ∃ y : (Option Addr × Nat), e = .returned (.slice (y.1) (nq) (y.2)) ∧ X (x.1, y, x.2.2) true b1 false w') (C25 : ∀ (x : ((Option Addr × Nat) × (Option Addr × Nat) × Nat)) (b1 : Bool) (w : World), X x true b1 false w → Calls Tryz.prog 35 #[.pointer (some ⟨p, 0, none⟩)] w fun e w' => e = .returned (.pointer (some ⟨d, 0, none⟩)) ∧ X x true b1 false w') (C26 : ∀ (x : ((Option Addr × Nat) × (Option Addr × Nat) × Nat)) (b1 : Bool) (w : World), X x true b1 false w → Calls Tryz.prog 36 #[.pointer (some ⟨d, 0, none⟩)] w fun e w' => e = .returned (.bool false) ∧ X x true b1 false w') (B28 : ∀ (x : ((Option Addr × Nat) × (Option Addr × Nat) × Nat)) (b0 : Bool) (w : World), X x b0 false false w → X (x.1, x.2.1, w.heap.size) b0 true false (w.alloc (.cells #[.int .i64 0, .int .i64 0, .bool false, .bool false, .slice none 0 0, .int .i64 0, .int .i64 0, .int .i64 0, .int .i64 0, .int .i64 0, .int .i64 0, .int .i64 0, .int .i64 0, .int .i64 0, .bool false] 38))) (S29 : ∀ (x : ((Option Addr × Nat) × (Option Addr × Nat) × Nat)) (w : World), X x true true false w → ∃ u0 u1 u2 u3 u4 u5 u6 u7 u8 u9 u10 u11 u12 u13 u14, w.cell? ⟨x.2.2, 0, none⟩ = some u0 ∧ w.cell? ⟨x.2.2, 1, none⟩ = some u1 ∧ w.cell? ⟨x.2.2, 2, none⟩ = some u2 ∧ w.cell? ⟨x.2.2, 3, none⟩ = some u3 ∧ w.cell? ⟨x.2.2, 4, none⟩ = some u4 ∧ w.cell? ⟨x.2.2, 5, none⟩ = some u5 ∧ w.cell? ⟨x.2.2, 6, none⟩ = some u6 ∧ w.cell? ⟨x.2.2, 7, none⟩ = some u7 ∧ w.cell? ⟨x.2.2, 8, none⟩ = some u8 ∧ w.cell? ⟨x.2.2, 9, none⟩ = some u9 ∧ w.cell? ⟨x.2.2, 10, none⟩ = some u10 ∧ w.cell? ⟨x.2.2, 11, none⟩ = some u11 ∧ w.cell? ⟨x.2.2, 12, none⟩ = some u12 ∧ w.cell? ⟨x.2.2, 13, none⟩ = some u13 ∧ w.cell? ⟨x.2.2, 14, none⟩ = some u14 ∧ w.frozen? ⟨x.2.2, 0, none⟩ = false ∧ w.frozen? ⟨x.2.2, 1, none⟩ = false ∧ w.frozen? ⟨x.2.2, 2, none⟩ = false ∧ w.frozen? ⟨x.2.2, 3, none⟩ = false ∧ w.frozen? ⟨x.2.2, 4, none⟩ = false ∧ w.frozen? ⟨x.2.2, 5, none⟩ = false ∧ w.frozen? ⟨x.2.2, 6, none⟩ = false ∧ w.frozen? ⟨x.2.2, 7, none⟩ = false ∧ w.frozen? ⟨x.2.2, 8, none⟩ = false ∧ w.frozen? ⟨x.2.2, 9, none⟩ = false ∧ w.frozen? ⟨x.2.2, 10, none⟩ = false ∧ w.frozen? ⟨x.2.2, 11, none⟩ = false ∧ w.frozen? ⟨x.2.2, 12, none⟩ = false ∧ w.frozen? ⟨x.2.2, 13, none⟩ = false ∧ w.frozen? ⟨x.2.2, 14, none⟩ = false ∧ X x true true true (((((((((((((((w.setCell ⟨x.2.2, 0, none⟩ (.int .i64 now)).setCell ⟨x.2.2, 1, none⟩ (.int .i64 want)).setCell ⟨x.2.2, 2, none⟩ (.bool pn)).setCell ⟨x.2.2, 3, none⟩ (.bool px)).setCell ⟨x.2.2, 4, none⟩ (.slice (x.1.1) (np) (x.1.2))).setCell ⟨x.2.2, 5, none⟩ (.int .i64 nq)).setCell ⟨x.2.2, 6, none⟩ (.int .i64 0)).setCell ⟨x.2.2, 7, none⟩ (.int .i64 0)).setCell ⟨x.2.2, 8, none⟩ (.int .i64 0)).setCell ⟨x.2.2, 9, none⟩ (.int .i64 0)).setCell ⟨x.2.2, 10, none⟩ (.int .i64 0)).setCell ⟨x.2.2, 11, none⟩ (.int .i64 0)).setCell ⟨x.2.2, 12, none⟩ (.int .i64 0)).setCell ⟨x.2.2, 13, none⟩ (.int .i64 0)).setCell ⟨x.2.2, 14, none⟩ (.bool false))) (t0 : Array Value) (hz : t0.size = 60) (ht0 : t0[0]? = some (.pointer (some ⟨p, 0, none⟩))) {id : Nat} {Q : Exit → Act → World → Prop} {w : World} (x0 : ((Option Addr × Nat) × (Option Addr × Nat) × Nat)) (start : X x0 false false false w.drew) (fin : ∀ x w', X x true true true w' → Q .normal ⟨puts ((lay_see3 p l q d now want pn px np nq) x) t0, []⟩ w') : (Code.region id ops true).wp Tryz.prog Q ⟨t0, []⟩ w := by
  subst ho
  refine wp_regX (Wd := (fun x L => X x (L 19) (L 28) (L 29))) 30 rfl see3_acyc see3_size (fun _ => rfl) (see3_nodup p l q d now want pn px np nq) (fun x => by rw [see3_dsts, hz]; rfl) x0 start (fun i hi => see3_step p l q d now want pn px np nq X  M3 M7 M12 M16 C18 C19 C21 C22 C25 C26 B28 S29 t0 hz ht0 Q i hi) fun x L w' hl hw => fin x w' ?_
  have hw : X x (L 19) (L 28) (L 29) w' := hw
  rw [hl 19 (by omega), hl 28 (by omega), hl 29 (by omega)] at hw
  exact hw
end Go.Proofs.YtdgphoemjeakaaaGreatDoor.Y
