/- The whole service: regions that draw their order. -/
import Derived.Test.YtdgphoemjeakaaaGreatDoorQ11
import Derived.Test.YtdgphoemjeakaaaGreatDoorQ09
/-! The whole service: regions that draw their order. -/
namespace Go.Proofs.YtdgphoemjeakaaaGreatDoor.Y
open Go.RowKit Go.Proofs.YtdgphoemjeakaaaGreatDoor.K Go.Proofs.YtdgphoemjeakaaaGreatDoor.P Go.Proofs.YtdgphoemjeakaaaGreatDoor.W Go.Proofs.YtdgphoemjeakaaaGreatDoor.Rg
set_option maxRecDepth 100000

theorem info38 : (Tryz.prog.info? 38).map (fun i => (i.zero, i.size, i.bytes)) = some (some (.agg #[.int .i64 0, .int .i64 0, .bool false, .bool false, .slice none 0 0, .int .i64 0, .int .i64 0, .int .i64 0, .int .i64 0, .int .i64 0, .int .i64 0, .int .i64 0, .int .i64 0, .int .i64 0, .bool false]), 15, 128) := by kernel_rfl
noncomputable def R_tik14 : Array Oper := reg Tryz.f31 14
theorem tik14_size : R_tik14.size = 37 := by kernel_rfl
theorem tik14_acyc : acycB R_tik14 = true := by kernel_rfl
/-- What the operations lay. -/
noncomputable def lay_tik14 (bu : Int) (ini : Int) (li : Int) (rd : Int) (p : Nat) (l : Nat) (q : Nat) (now : Int) (zs : Int) (wn : Int) (st : Int) (ct : Int) (nq : Nat) (nf : Nat) (wt : Int) (x : (Option Addr × Nat) × (Option Addr × Nat)) : Lay := [(some 115, .pointer (some ⟨p, 0, none⟩)),
  (some 116, .pointer (some ⟨p, 0, none⟩)),
  (some 117, .pointer (some ⟨p, 0, none⟩)),
  (some 118, .pointer (some ⟨p, 0, none⟩)),
  (some 119, .agg (ca bu ini li rd)),
  (some 120, .pointer (some ⟨p, 0, none⟩)),
  (some 121, .pointer (some ⟨p, 0, none⟩)),
  (some 122, .pointer (some ⟨p, 31, none⟩)),
  (some 123, .agg #[.int .i64 zs]),
  (some 124, .pointer (some ⟨p, 0, none⟩)),
  (some 125, .pointer (some ⟨p, 0, none⟩)),
  (some 126, .pointer (some ⟨p, 20, none⟩)),
  (some 127, .int .i64 now),
  (some 128, .pointer (some ⟨p, 0, none⟩)),
  (some 129, .pointer (some ⟨p, 0, none⟩)),
  (some 130, .pointer (some ⟨p, 23, none⟩)),
  (some 131, .pointer (some ⟨p, 26, none⟩)),
  (some 132, .int .i64 wn),
  (some 133, .pointer (some ⟨p, 0, none⟩)),
  (some 134, .pointer (some ⟨l, 0, none⟩)),
  (some 135, .int .i64 ct),
  (some 136, .pointer (some ⟨p, 0, none⟩)),
  (some 137, .pointer (some ⟨p, 0, none⟩)),
  (some 138, .pointer (some ⟨p, 23, none⟩)),
  (some 139, .pointer (some ⟨p, 24, none⟩)),
  (some 140, .int .i64 st),
  (some 141, .pointer (some ⟨p, 0, none⟩)),
  (some 142, .pointer (some ⟨q, 0, none⟩)),
  (some 143, .slice (x.1.1) (nq) (x.1.2)),
  (some 144, .int .i64 (nq)),
  (some 145, .pointer (some ⟨p, 0, none⟩)),
  (some 146, .slice (x.2.1) (nf) (x.2.2)),
  (some 147, .int .i64 (nf)),
  (some 148, .int .i64 wt),
  (some 149, .pointer (some ⟨p, 0, none⟩)),
  (some 150, .pointer (some ⟨p, 29, none⟩)),
  (none, undef)]
theorem tik14_dsts (bu : Int) (ini : Int) (li : Int) (rd : Int) (p : Nat) (l : Nat) (q : Nat) (now : Int) (zs : Int) (wn : Int) (st : Int) (ct : Int) (nq : Nat) (nf : Nat) (wt : Int) (x : (Option Addr × Nat) × (Option Addr × Nat)) : dsts (lay_tik14 bu ini li rd p l q now zs wn st ct nq nf wt x) = [115, 116, 117, 118, 119, 120, 121, 122, 123, 124, 125, 126, 127, 128, 129, 130, 131, 132, 133, 134, 135, 136, 137, 138, 139, 140, 141, 142, 143, 144, 145, 146, 147, 148, 149, 150] := rfl
theorem tik14_nodup (bu : Int) (ini : Int) (li : Int) (rd : Int) (p : Nat) (l : Nat) (q : Nat) (now : Int) (zs : Int) (wn : Int) (st : Int) (ct : Int) (nq : Nat) (nf : Nat) (wt : Int) (x : (Option Addr × Nat) × (Option Addr × Nat)) : (dsts (lay_tik14 bu ini li rd p l q now zs wn st ct nq nf wt x)).Nodup := by rw [tik14_dsts]; decide
theorem tik14_swap28 (bu : Int) (ini : Int) (li : Int) (rd : Int) (p : Nat) (l : Nat) (q : Nat) (now : Int) (zs : Int) (wn : Int) (st : Int) (ct : Int) (nq : Nat) (nf : Nat) (wt : Int) (x : (Option Addr × Nat) × (Option Addr × Nat)) (y : (Option Addr × Nat)) (j : Nat) (e28 : ¬ j = 28) (e29 : ¬ j = 29) (e33 : ¬ j = 33) (e36 : ¬ j = 36) : ((lay_tik14 bu ini li rd p l q now zs wn st ct nq nf wt) (y, x.2))[j]? = ((lay_tik14 bu ini li rd p l q now zs wn st ct nq nf wt) x)[j]? := by
  have h : (lay_tik14 bu ini li rd p l q now zs wn st ct nq nf wt) (y, x.2) = ((((((lay_tik14 bu ini li rd p l q now zs wn st ct nq nf wt) x).set 28 (some 143, .slice (y.1) (nq) (y.2))).set 29 (some 144, .int .i64 (nq))).set 33 (some 148, .int .i64 wt)).set 36 (none, undef)) := rfl
  rw [h, List.getElem?_set_ne (fun h => e36 h.symm), List.getElem?_set_ne (fun h => e33 h.symm), List.getElem?_set_ne (fun h => e29 h.symm), List.getElem?_set_ne (fun h => e28 h.symm)]
theorem tik14_swap31 (bu : Int) (ini : Int) (li : Int) (rd : Int) (p : Nat) (l : Nat) (q : Nat) (now : Int) (zs : Int) (wn : Int) (st : Int) (ct : Int) (nq : Nat) (nf : Nat) (wt : Int) (x : (Option Addr × Nat) × (Option Addr × Nat)) (y : (Option Addr × Nat)) (j : Nat) (e31 : ¬ j = 31) (e32 : ¬ j = 32) (e33 : ¬ j = 33) (e36 : ¬ j = 36) : ((lay_tik14 bu ini li rd p l q now zs wn st ct nq nf wt) (x.1, y))[j]? = ((lay_tik14 bu ini li rd p l q now zs wn st ct nq nf wt) x)[j]? := by
  have h : (lay_tik14 bu ini li rd p l q now zs wn st ct nq nf wt) (x.1, y) = ((((((lay_tik14 bu ini li rd p l q now zs wn st ct nq nf wt) x).set 31 (some 146, .slice (y.1) (nf) (y.2))).set 32 (some 147, .int .i64 (nf))).set 33 (some 148, .int .i64 wt)).set 36 (none, undef)) := rfl
  rw [h, List.getElem?_set_ne (fun h => e36 h.symm), List.getElem?_set_ne (fun h => e33 h.symm), List.getElem?_set_ne (fun h => e32 h.symm), List.getElem?_set_ne (fun h => e31 h.symm)]
section
variable (bu : Int) (ini : Int) (li : Int) (rd : Int) (p : Nat) (l : Nat) (q : Nat) (now : Int) (zs : Int) (wn : Int) (st : Int) (ct : Int) (nq : Nat) (nf : Nat) (wt : Int) (X : ((Option Addr × Nat) × (Option Addr × Nat)) → Bool → World → Prop)
theorem tik14_0 (t0 : Array Value) (hz : t0.size = 201) (ht0 : t0[0]? = some (.pointer (some ⟨p, 0, none⟩))) (Q : Exit → Act → World → Prop) : RStepX Tryz.prog R_tik14 (lay_tik14 bu ini li rd p l q now zs wn st ct nq nf wt) t0 (fun x L => X x (L 36)) Q 0 := by
  intro x L o a w ho hL hd hI
  have f0 : a.tmps[0]? = some (.pointer (some ⟨p, 0, none⟩)) := hI.from ht0 rfl
  have h : R_tik14[0]? = some R_tik14[0] := rfl
  conv at h => rhs; arg 1; whnf
  simp only [wpOp, h]
  rw [if_pos (by rfl)]
  left
  go_simp
  exact ⟨x, hI.put (tik14_nodup bu ini li rd p l q now zs wn st ct nq nf wt _) 0 ho hd _ _ _ rfl (.inr (rfl)) (by intro e he; cases he; exact hz ▸ (by decide : (115 : Nat) < 201)) hI.wd⟩
theorem tik14_1 (t0 : Array Value) (hz : t0.size = 201) (ht0 : t0[0]? = some (.pointer (some ⟨p, 0, none⟩))) (Q : Exit → Act → World → Prop) : RStepX Tryz.prog R_tik14 (lay_tik14 bu ini li rd p l q now zs wn st ct nq nf wt) t0 (fun x L => X x (L 36)) Q 1 := by
  intro x L o a w ho hL hd hI
  have f0 : a.tmps[0]? = some (.pointer (some ⟨p, 0, none⟩)) := hI.from ht0 rfl
  have h : R_tik14[1]? = some R_tik14[1] := rfl
  conv at h => rhs; arg 1; whnf
  simp only [wpOp, h]
  rw [if_pos (by rfl)]
  left
  go_simp
  exact ⟨x, hI.put (tik14_nodup bu ini li rd p l q now zs wn st ct nq nf wt _) 1 ho hd _ _ _ rfl (.inr (rfl)) (by intro e he; cases he; exact hz ▸ (by decide : (116 : Nat) < 201)) hI.wd⟩
theorem tik14_2 (t0 : Array Value) (hz : t0.size = 201) (Q : Exit → Act → World → Prop) : RStepX Tryz.prog R_tik14 (lay_tik14 bu ini li rd p l q now zs wn st ct nq nf wt) t0 (fun x L => X x (L 36)) Q 2 := by
  intro x L o a w ho hL hd hI
  have d1 : L 1 = true := dep_spec ho hd (k := 1) (by kernel_rfl)
  have f116 : a.tmps[116]? = some (.pointer (some ⟨p, 0, none⟩)) := hI.at 1 rfl d1
  have h : R_tik14[2]? = some R_tik14[2] := rfl
  conv at h => rhs; arg 1; whnf
  simp only [wpOp, h]
  rw [if_pos (by rfl)]
  left
  go_simp
  exact ⟨x, hI.put (tik14_nodup bu ini li rd p l q now zs wn st ct nq nf wt _) 2 ho hd _ _ _ rfl (.inr (rfl)) (by intro e he; cases he; exact hz ▸ (by decide : (117 : Nat) < 201)) hI.wd⟩
theorem tik14_3 (t0 : Array Value) (hz : t0.size = 201) (Q : Exit → Act → World → Prop) : RStepX Tryz.prog R_tik14 (lay_tik14 bu ini li rd p l q now zs wn st ct nq nf wt) t0 (fun x L => X x (L 36)) Q 3 := by
  intro x L o a w ho hL hd hI
  have d2 : L 2 = true := dep_spec ho hd (k := 2) (by kernel_rfl)
  have f117 : a.tmps[117]? = some (.pointer (some ⟨p, 0, none⟩)) := hI.at 2 rfl d2
  have h : R_tik14[3]? = some R_tik14[3] := rfl
  conv at h => rhs; arg 1; whnf
  simp only [wpOp, h]
  rw [if_pos (by rfl)]
  left
  go_simp
  exact ⟨x, hI.put (tik14_nodup bu ini li rd p l q now zs wn st ct nq nf wt _) 3 ho hd _ _ _ rfl (.inr (rfl)) (by intro e he; cases he; exact hz ▸ (by decide : (118 : Nat) < 201)) hI.wd⟩
theorem tik14_4 (M4 : ∀ (x : ((Option Addr × Nat) × (Option Addr × Nat))) (w : World), X x false w → rowOf w p (0) 20 = some (.agg (ca bu ini li rd))) (t0 : Array Value) (hz : t0.size = 201) (Q : Exit → Act → World → Prop) : RStepX Tryz.prog R_tik14 (lay_tik14 bu ini li rd p l q now zs wn st ct nq nf wt) t0 (fun x L => X x (L 36)) Q 4 := by
  intro x L o a w ho hL hd hI
  have d3 : L 3 = true := dep_spec ho hd (k := 3) (by kernel_rfl)
  have f118 : a.tmps[118]? = some (.pointer (some ⟨p, 0, none⟩)) := hI.at 3 rfl d3
  have z36 : L 36 = false := by
    cases q36 : L 36 with
    | false => rfl
    | true =>
      have q4 : L 4 = true := hI.tr q36 (by kernel_rfl)
      rw [hL] at q4; cases q4
  have hw : X x (L 36) w := hI.wd
  rw [z36] at hw
  have hv := M4 x  w hw
  have h : R_tik14[4]? = some R_tik14[4] := rfl
  conv at h => rhs; arg 1; whnf
  simp only [wpOp, h]
  rw [if_pos (by rfl)]
  left
  go_simp
  exact ⟨x, hI.put (tik14_nodup bu ini li rd p l q now zs wn st ct nq nf wt _) 4 ho hd _ _ _ rfl (.inr (rfl)) (by intro e he; cases he; exact hz ▸ (by decide : (119 : Nat) < 201)) hI.wd⟩
theorem tik14_5 (t0 : Array Value) (hz : t0.size = 201) (ht0 : t0[0]? = some (.pointer (some ⟨p, 0, none⟩))) (Q : Exit → Act → World → Prop) : RStepX Tryz.prog R_tik14 (lay_tik14 bu ini li rd p l q now zs wn st ct nq nf wt) t0 (fun x L => X x (L 36)) Q 5 := by
  intro x L o a w ho hL hd hI
  have f0 : a.tmps[0]? = some (.pointer (some ⟨p, 0, none⟩)) := hI.from ht0 rfl
  have h : R_tik14[5]? = some R_tik14[5] := rfl
  conv at h => rhs; arg 1; whnf
  simp only [wpOp, h]
  rw [if_pos (by rfl)]
  left
  go_simp
  exact ⟨x, hI.put (tik14_nodup bu ini li rd p l q now zs wn st ct nq nf wt _) 5 ho hd _ _ _ rfl (.inr (rfl)) (by intro e he; cases he; exact hz ▸ (by decide : (120 : Nat) < 201)) hI.wd⟩
theorem tik14_6 (t0 : Array Value) (hz : t0.size = 201) (Q : Exit → Act → World → Prop) : RStepX Tryz.prog R_tik14 (lay_tik14 bu ini li rd p l q now zs wn st ct nq nf wt) t0 (fun x L => X x (L 36)) Q 6 := by
  intro x L o a w ho hL hd hI
  have d5 : L 5 = true := dep_spec ho hd (k := 5) (by kernel_rfl)
  have f120 : a.tmps[120]? = some (.pointer (some ⟨p, 0, none⟩)) := hI.at 5 rfl d5
  have h : R_tik14[6]? = some R_tik14[6] := rfl
  conv at h => rhs; arg 1; whnf
  simp only [wpOp, h]
  rw [if_pos (by rfl)]
  left
  go_simp
  exact ⟨x, hI.put (tik14_nodup bu ini li rd p l q now zs wn st ct nq nf wt _) 6 ho hd _ _ _ rfl (.inr (rfl)) (by intro e he; cases he; exact hz ▸ (by decide : (121 : Nat) < 201)) hI.wd⟩
theorem tik14_7 (t0 : Array Value) (hz : t0.size = 201) (Q : Exit → Act → World → Prop) : RStepX Tryz.prog R_tik14 (lay_tik14 bu ini li rd p l q now zs wn st ct nq nf wt) t0 (fun x L => X x (L 36)) Q 7 := by
  intro x L o a w ho hL hd hI
  have d6 : L 6 = true := dep_spec ho hd (k := 6) (by kernel_rfl)
  have f121 : a.tmps[121]? = some (.pointer (some ⟨p, 0, none⟩)) := hI.at 6 rfl d6
  have h : R_tik14[7]? = some R_tik14[7] := rfl
  conv at h => rhs; arg 1; whnf
  simp only [wpOp, h]
  rw [if_pos (by rfl)]
  left
  go_simp
  exact ⟨x, hI.put (tik14_nodup bu ini li rd p l q now zs wn st ct nq nf wt _) 7 ho hd _ _ _ rfl (.inr (rfl)) (by intro e he; cases he; exact hz ▸ (by decide : (122 : Nat) < 201)) hI.wd⟩
theorem tik14_8 (M8 : ∀ (x : ((Option Addr × Nat) × (Option Addr × Nat))) (w : World), X x false w → w.cell? ⟨p, 31, none⟩ = some (.int .i64 zs)) (t0 : Array Value) (hz : t0.size = 201) (Q : Exit → Act → World → Prop) : RStepX Tryz.prog R_tik14 (lay_tik14 bu ini li rd p l q now zs wn st ct nq nf wt) t0 (fun x L => X x (L 36)) Q 8 := by
  intro x L o a w ho hL hd hI
  have d7 : L 7 = true := dep_spec ho hd (k := 7) (by kernel_rfl)
  have f122 : a.tmps[122]? = some (.pointer (some ⟨p, 31, none⟩)) := hI.at 7 rfl d7
  have z36 : L 36 = false := by
    cases q36 : L 36 with
    | false => rfl
    | true =>
      have q8 : L 8 = true := hI.tr q36 (by kernel_rfl)
      rw [hL] at q8; cases q8
  have hw : X x (L 36) w := hI.wd
  rw [z36] at hw
  have hv := M8 x  w hw
  have h : R_tik14[8]? = some R_tik14[8] := rfl
  conv at h => rhs; arg 1; whnf
  simp only [wpOp, h]
  rw [if_pos (by rfl)]
  left
  go_simp
  exact ⟨x, hI.put (tik14_nodup bu ini li rd p l q now zs wn st ct nq nf wt _) 8 ho hd _ _ _ rfl (.inr (rfl)) (by intro e he; cases he; exact hz ▸ (by decide : (123 : Nat) < 201)) hI.wd⟩
theorem tik14_9 (t0 : Array Value) (hz : t0.size = 201) (ht0 : t0[0]? = some (.pointer (some ⟨p, 0, none⟩))) (Q : Exit → Act → World → Prop) : RStepX Tryz.prog R_tik14 (lay_tik14 bu ini li rd p l q now zs wn st ct nq nf wt) t0 (fun x L => X x (L 36)) Q 9 := by
  intro x L o a w ho hL hd hI
  have f0 : a.tmps[0]? = some (.pointer (some ⟨p, 0, none⟩)) := hI.from ht0 rfl
  have h : R_tik14[9]? = some R_tik14[9] := rfl
  conv at h => rhs; arg 1; whnf
  simp only [wpOp, h]
  rw [if_pos (by rfl)]
  left
  go_simp
  exact ⟨x, hI.put (tik14_nodup bu ini li rd p l q now zs wn st ct nq nf wt _) 9 ho hd _ _ _ rfl (.inr (rfl)) (by intro e he; cases he; exact hz ▸ (by decide : (124 : Nat) < 201)) hI.wd⟩
theorem tik14_10 (t0 : Array Value) (hz : t0.size = 201) (Q : Exit → Act → World → Prop) : RStepX Tryz.prog R_tik14 (lay_tik14 bu ini li rd p l q now zs wn st ct nq nf wt) t0 (fun x L => X x (L 36)) Q 10 := by
  intro x L o a w ho hL hd hI
  have d9 : L 9 = true := dep_spec ho hd (k := 9) (by kernel_rfl)
  have f124 : a.tmps[124]? = some (.pointer (some ⟨p, 0, none⟩)) := hI.at 9 rfl d9
  have h : R_tik14[10]? = some R_tik14[10] := rfl
  conv at h => rhs; arg 1; whnf
  simp only [wpOp, h]
  rw [if_pos (by rfl)]
  left
  go_simp
  exact ⟨x, hI.put (tik14_nodup bu ini li rd p l q now zs wn st ct nq nf wt _) 10 ho hd _ _ _ rfl (.inr (rfl)) (by intro e he; cases he; exact hz ▸ (by decide : (125 : Nat) < 201)) hI.wd⟩
theorem tik14_11 (t0 : Array Value) (hz : t0.size = 201) (Q : Exit → Act → World → Prop) : RStepX Tryz.prog R_tik14 (lay_tik14 bu ini li rd p l q now zs wn st ct nq nf wt) t0 (fun x L => X x (L 36)) Q 11 := by
  intro x L o a w ho hL hd hI
  have d10 : L 10 = true := dep_spec ho hd (k := 10) (by kernel_rfl)
  have f125 : a.tmps[125]? = some (.pointer (some ⟨p, 0, none⟩)) := hI.at 10 rfl d10
  have h : R_tik14[11]? = some R_tik14[11] := rfl
  conv at h => rhs; arg 1; whnf
  simp only [wpOp, h]
  rw [if_pos (by rfl)]
  left
  go_simp
  exact ⟨x, hI.put (tik14_nodup bu ini li rd p l q now zs wn st ct nq nf wt _) 11 ho hd _ _ _ rfl (.inr (rfl)) (by intro e he; cases he; exact hz ▸ (by decide : (126 : Nat) < 201)) hI.wd⟩
theorem tik14_12 (M12 : ∀ (x : ((Option Addr × Nat) × (Option Addr × Nat))) (w : World), X x false w → w.cell? ⟨p, 20, none⟩ = some (.int .i64 now)) (t0 : Array Value) (hz : t0.size = 201) (Q : Exit → Act → World → Prop) : RStepX Tryz.prog R_tik14 (lay_tik14 bu ini li rd p l q now zs wn st ct nq nf wt) t0 (fun x L => X x (L 36)) Q 12 := by
  intro x L o a w ho hL hd hI
  have d11 : L 11 = true := dep_spec ho hd (k := 11) (by kernel_rfl)
  have f126 : a.tmps[126]? = some (.pointer (some ⟨p, 20, none⟩)) := hI.at 11 rfl d11
  have z36 : L 36 = false := by
    cases q36 : L 36 with
    | false => rfl
    | true =>
      have q12 : L 12 = true := hI.tr q36 (by kernel_rfl)
      rw [hL] at q12; cases q12
  have hw : X x (L 36) w := hI.wd
  rw [z36] at hw
  have hv := M12 x  w hw
  have h : R_tik14[12]? = some R_tik14[12] := rfl
  conv at h => rhs; arg 1; whnf
  simp only [wpOp, h]
  rw [if_pos (by rfl)]
  left
  go_simp
  exact ⟨x, hI.put (tik14_nodup bu ini li rd p l q now zs wn st ct nq nf wt _) 12 ho hd _ _ _ rfl (.inr (rfl)) (by intro e he; cases he; exact hz ▸ (by decide : (127 : Nat) < 201)) hI.wd⟩
theorem tik14_13 (t0 : Array Value) (hz : t0.size = 201) (ht0 : t0[0]? = some (.pointer (some ⟨p, 0, none⟩))) (Q : Exit → Act → World → Prop) : RStepX Tryz.prog R_tik14 (lay_tik14 bu ini li rd p l q now zs wn st ct nq nf wt) t0 (fun x L => X x (L 36)) Q 13 := by
  intro x L o a w ho hL hd hI
  have f0 : a.tmps[0]? = some (.pointer (some ⟨p, 0, none⟩)) := hI.from ht0 rfl
  have h : R_tik14[13]? = some R_tik14[13] := rfl
  conv at h => rhs; arg 1; whnf
  simp only [wpOp, h]
  rw [if_pos (by rfl)]
  left
  go_simp
  exact ⟨x, hI.put (tik14_nodup bu ini li rd p l q now zs wn st ct nq nf wt _) 13 ho hd _ _ _ rfl (.inr (rfl)) (by intro e he; cases he; exact hz ▸ (by decide : (128 : Nat) < 201)) hI.wd⟩
theorem tik14_14 (t0 : Array Value) (hz : t0.size = 201) (Q : Exit → Act → World → Prop) : RStepX Tryz.prog R_tik14 (lay_tik14 bu ini li rd p l q now zs wn st ct nq nf wt) t0 (fun x L => X x (L 36)) Q 14 := by
  intro x L o a w ho hL hd hI
  have d13 : L 13 = true := dep_spec ho hd (k := 13) (by kernel_rfl)
  have f128 : a.tmps[128]? = some (.pointer (some ⟨p, 0, none⟩)) := hI.at 13 rfl d13
  have h : R_tik14[14]? = some R_tik14[14] := rfl
  conv at h => rhs; arg 1; whnf
  simp only [wpOp, h]
  rw [if_pos (by rfl)]
  left
  go_simp
  exact ⟨x, hI.put (tik14_nodup bu ini li rd p l q now zs wn st ct nq nf wt _) 14 ho hd _ _ _ rfl (.inr (rfl)) (by intro e he; cases he; exact hz ▸ (by decide : (129 : Nat) < 201)) hI.wd⟩
theorem tik14_15 (t0 : Array Value) (hz : t0.size = 201) (Q : Exit → Act → World → Prop) : RStepX Tryz.prog R_tik14 (lay_tik14 bu ini li rd p l q now zs wn st ct nq nf wt) t0 (fun x L => X x (L 36)) Q 15 := by
  intro x L o a w ho hL hd hI
  have d14 : L 14 = true := dep_spec ho hd (k := 14) (by kernel_rfl)
  have f129 : a.tmps[129]? = some (.pointer (some ⟨p, 0, none⟩)) := hI.at 14 rfl d14
  have h : R_tik14[15]? = some R_tik14[15] := rfl
  conv at h => rhs; arg 1; whnf
  simp only [wpOp, h]
  rw [if_pos (by rfl)]
  left
  go_simp
  exact ⟨x, hI.put (tik14_nodup bu ini li rd p l q now zs wn st ct nq nf wt _) 15 ho hd _ _ _ rfl (.inr (rfl)) (by intro e he; cases he; exact hz ▸ (by decide : (130 : Nat) < 201)) hI.wd⟩
theorem tik14_16 (t0 : Array Value) (hz : t0.size = 201) (Q : Exit → Act → World → Prop) : RStepX Tryz.prog R_tik14 (lay_tik14 bu ini li rd p l q now zs wn st ct nq nf wt) t0 (fun x L => X x (L 36)) Q 16 := by
  intro x L o a w ho hL hd hI
  have d15 : L 15 = true := dep_spec ho hd (k := 15) (by kernel_rfl)
  have f130 : a.tmps[130]? = some (.pointer (some ⟨p, 23, none⟩)) := hI.at 15 rfl d15
  have h : R_tik14[16]? = some R_tik14[16] := rfl
  conv at h => rhs; arg 1; whnf
  simp only [wpOp, h]
  rw [if_pos (by rfl)]
  left
  go_simp
  exact ⟨x, hI.put (tik14_nodup bu ini li rd p l q now zs wn st ct nq nf wt _) 16 ho hd _ _ _ rfl (.inr (rfl)) (by intro e he; cases he; exact hz ▸ (by decide : (131 : Nat) < 201)) hI.wd⟩
theorem tik14_17 (M17 : ∀ (x : ((Option Addr × Nat) × (Option Addr × Nat))) (w : World), X x false w → w.cell? ⟨p, 26, none⟩ = some (.int .i64 wn)) (t0 : Array Value) (hz : t0.size = 201) (Q : Exit → Act → World → Prop) : RStepX Tryz.prog R_tik14 (lay_tik14 bu ini li rd p l q now zs wn st ct nq nf wt) t0 (fun x L => X x (L 36)) Q 17 := by
  intro x L o a w ho hL hd hI
  have d16 : L 16 = true := dep_spec ho hd (k := 16) (by kernel_rfl)
  have f131 : a.tmps[131]? = some (.pointer (some ⟨p, 26, none⟩)) := hI.at 16 rfl d16
  have z36 : L 36 = false := by
    cases q36 : L 36 with
    | false => rfl
    | true =>
      have q17 : L 17 = true := hI.tr q36 (by kernel_rfl)
      rw [hL] at q17; cases q17
  have hw : X x (L 36) w := hI.wd
  rw [z36] at hw
  have hv := M17 x  w hw
  have h : R_tik14[17]? = some R_tik14[17] := rfl
  conv at h => rhs; arg 1; whnf
  simp only [wpOp, h]
  rw [if_pos (by rfl)]
  left
  go_simp
  exact ⟨x, hI.put (tik14_nodup bu ini li rd p l q now zs wn st ct nq nf wt _) 17 ho hd _ _ _ rfl (.inr (rfl)) (by intro e he; cases he; exact hz ▸ (by decide : (132 : Nat) < 201)) hI.wd⟩
theorem tik14_18 (t0 : Array Value) (hz : t0.size = 201) (ht0 : t0[0]? = some (.pointer (some ⟨p, 0, none⟩))) (Q : Exit → Act → World → Prop) : RStepX Tryz.prog R_tik14 (lay_tik14 bu ini li rd p l q now zs wn st ct nq nf wt) t0 (fun x L => X x (L 36)) Q 18 := by
  intro x L o a w ho hL hd hI
  have f0 : a.tmps[0]? = some (.pointer (some ⟨p, 0, none⟩)) := hI.from ht0 rfl
  have h : R_tik14[18]? = some R_tik14[18] := rfl
  conv at h => rhs; arg 1; whnf
  simp only [wpOp, h]
  rw [if_pos (by rfl)]
  left
  go_simp
  exact ⟨x, hI.put (tik14_nodup bu ini li rd p l q now zs wn st ct nq nf wt _) 18 ho hd _ _ _ rfl (.inr (rfl)) (by intro e he; cases he; exact hz ▸ (by decide : (133 : Nat) < 201)) hI.wd⟩
theorem tik14_19 (C19 : ∀ (x : ((Option Addr × Nat) × (Option Addr × Nat))) (w : World), X x false w → Calls Tryz.prog 21 #[.pointer (some ⟨p, 0, none⟩)] w fun e w' => e = .returned (.pointer (some ⟨l, 0, none⟩)) ∧ X x false w') (t0 : Array Value) (hz : t0.size = 201) (Q : Exit → Act → World → Prop) : RStepX Tryz.prog R_tik14 (lay_tik14 bu ini li rd p l q now zs wn st ct nq nf wt) t0 (fun x L => X x (L 36)) Q 19 := by
  intro x L o a w ho hL hd hI
  have d18 : L 18 = true := dep_spec ho hd (k := 18) (by kernel_rfl)
  have f133 : a.tmps[133]? = some (.pointer (some ⟨p, 0, none⟩)) := hI.at 18 rfl d18
  have z36 : L 36 = false := by
    cases q36 : L 36 with
    | false => rfl
    | true =>
      have q19 : L 19 = true := hI.tr q36 (by kernel_rfl)
      rw [hL] at q19; cases q19
  have hw : X x (L 36) w := hI.wd
  rw [z36] at hw
  have h : R_tik14[19]? = some R_tik14[19] := rfl
  conv at h => rhs; arg 1; whnf
  simp only [wpOp, h]
  rw [if_pos (by rfl)]
  left
  go_simp
  refine (C19 x  w hw).mono ?_
  rintro e w' ⟨rfl, hx⟩
  have hx2 : X x (L 36) w' := by
    rw [z36]
    exact hx
  exact ⟨x, ((hI.rewd (Wd' := fun _ _ => True) (w' := w) trivial).put (w' := w) (tik14_nodup bu ini li rd p l q now zs wn st ct nq nf wt _) 19 ho hd _ _ _ rfl (.inr (rfl)) (by intro e he; cases he; exact hz ▸ (by decide : (134 : Nat) < 201)) trivial).rewd hx2⟩
theorem tik14_20 (C20 : ∀ (x : ((Option Addr × Nat) × (Option Addr × Nat))) (w : World), X x false w → Calls Tryz.prog 43 #[.pointer (some ⟨l, 0, none⟩)] w fun e w' => e = .returned (.int .i64 ct) ∧ X x false w') (t0 : Array Value) (hz : t0.size = 201) (Q : Exit → Act → World → Prop) : RStepX Tryz.prog R_tik14 (lay_tik14 bu ini li rd p l q now zs wn st ct nq nf wt) t0 (fun x L => X x (L 36)) Q 20 := by
  intro x L o a w ho hL hd hI
  have d19 : L 19 = true := dep_spec ho hd (k := 19) (by kernel_rfl)
  have f134 : a.tmps[134]? = some (.pointer (some ⟨l, 0, none⟩)) := hI.at 19 rfl d19
  have z36 : L 36 = false := by
    cases q36 : L 36 with
    | false => rfl
    | true =>
      have q20 : L 20 = true := hI.tr q36 (by kernel_rfl)
      rw [hL] at q20; cases q20
  have hw : X x (L 36) w := hI.wd
  rw [z36] at hw
  have h : R_tik14[20]? = some R_tik14[20] := rfl
  conv at h => rhs; arg 1; whnf
  simp only [wpOp, h]
  rw [if_pos (by rfl)]
  left
  go_simp
  refine (C20 x  w hw).mono ?_
  rintro e w' ⟨rfl, hx⟩
  have hx2 : X x (L 36) w' := by
    rw [z36]
    exact hx
  exact ⟨x, ((hI.rewd (Wd' := fun _ _ => True) (w' := w) trivial).put (w' := w) (tik14_nodup bu ini li rd p l q now zs wn st ct nq nf wt _) 20 ho hd _ _ _ rfl (.inr (rfl)) (by intro e he; cases he; exact hz ▸ (by decide : (135 : Nat) < 201)) trivial).rewd hx2⟩
theorem tik14_21 (t0 : Array Value) (hz : t0.size = 201) (ht0 : t0[0]? = some (.pointer (some ⟨p, 0, none⟩))) (Q : Exit → Act → World → Prop) : RStepX Tryz.prog R_tik14 (lay_tik14 bu ini li rd p l q now zs wn st ct nq nf wt) t0 (fun x L => X x (L 36)) Q 21 := by
  intro x L o a w ho hL hd hI
  have f0 : a.tmps[0]? = some (.pointer (some ⟨p, 0, none⟩)) := hI.from ht0 rfl
  have h : R_tik14[21]? = some R_tik14[21] := rfl
  conv at h => rhs; arg 1; whnf
  simp only [wpOp, h]
  rw [if_pos (by rfl)]
  left
  go_simp
  exact ⟨x, hI.put (tik14_nodup bu ini li rd p l q now zs wn st ct nq nf wt _) 21 ho hd _ _ _ rfl (.inr (rfl)) (by intro e he; cases he; exact hz ▸ (by decide : (136 : Nat) < 201)) hI.wd⟩
theorem tik14_22 (t0 : Array Value) (hz : t0.size = 201) (Q : Exit → Act → World → Prop) : RStepX Tryz.prog R_tik14 (lay_tik14 bu ini li rd p l q now zs wn st ct nq nf wt) t0 (fun x L => X x (L 36)) Q 22 := by
  intro x L o a w ho hL hd hI
  have d21 : L 21 = true := dep_spec ho hd (k := 21) (by kernel_rfl)
  have f136 : a.tmps[136]? = some (.pointer (some ⟨p, 0, none⟩)) := hI.at 21 rfl d21
  have h : R_tik14[22]? = some R_tik14[22] := rfl
  conv at h => rhs; arg 1; whnf
  simp only [wpOp, h]
  rw [if_pos (by rfl)]
  left
  go_simp
  exact ⟨x, hI.put (tik14_nodup bu ini li rd p l q now zs wn st ct nq nf wt _) 22 ho hd _ _ _ rfl (.inr (rfl)) (by intro e he; cases he; exact hz ▸ (by decide : (137 : Nat) < 201)) hI.wd⟩
theorem tik14_23 (t0 : Array Value) (hz : t0.size = 201) (Q : Exit → Act → World → Prop) : RStepX Tryz.prog R_tik14 (lay_tik14 bu ini li rd p l q now zs wn st ct nq nf wt) t0 (fun x L => X x (L 36)) Q 23 := by
  intro x L o a w ho hL hd hI
  have d22 : L 22 = true := dep_spec ho hd (k := 22) (by kernel_rfl)
  have f137 : a.tmps[137]? = some (.pointer (some ⟨p, 0, none⟩)) := hI.at 22 rfl d22
  have h : R_tik14[23]? = some R_tik14[23] := rfl
  conv at h => rhs; arg 1; whnf
  simp only [wpOp, h]
  rw [if_pos (by rfl)]
  left
  go_simp
  exact ⟨x, hI.put (tik14_nodup bu ini li rd p l q now zs wn st ct nq nf wt _) 23 ho hd _ _ _ rfl (.inr (rfl)) (by intro e he; cases he; exact hz ▸ (by decide : (138 : Nat) < 201)) hI.wd⟩
theorem tik14_24 (t0 : Array Value) (hz : t0.size = 201) (Q : Exit → Act → World → Prop) : RStepX Tryz.prog R_tik14 (lay_tik14 bu ini li rd p l q now zs wn st ct nq nf wt) t0 (fun x L => X x (L 36)) Q 24 := by
  intro x L o a w ho hL hd hI
  have d23 : L 23 = true := dep_spec ho hd (k := 23) (by kernel_rfl)
  have f138 : a.tmps[138]? = some (.pointer (some ⟨p, 23, none⟩)) := hI.at 23 rfl d23
  have h : R_tik14[24]? = some R_tik14[24] := rfl
  conv at h => rhs; arg 1; whnf
  simp only [wpOp, h]
  rw [if_pos (by rfl)]
  left
  go_simp
  exact ⟨x, hI.put (tik14_nodup bu ini li rd p l q now zs wn st ct nq nf wt _) 24 ho hd _ _ _ rfl (.inr (rfl)) (by intro e he; cases he; exact hz ▸ (by decide : (139 : Nat) < 201)) hI.wd⟩
theorem tik14_25 (M25 : ∀ (x : ((Option Addr × Nat) × (Option Addr × Nat))) (w : World), X x false w → w.cell? ⟨p, 24, none⟩ = some (.int .i64 st)) (t0 : Array Value) (hz : t0.size = 201) (Q : Exit → Act → World → Prop) : RStepX Tryz.prog R_tik14 (lay_tik14 bu ini li rd p l q now zs wn st ct nq nf wt) t0 (fun x L => X x (L 36)) Q 25 := by
  intro x L o a w ho hL hd hI
  have d24 : L 24 = true := dep_spec ho hd (k := 24) (by kernel_rfl)
  have f139 : a.tmps[139]? = some (.pointer (some ⟨p, 24, none⟩)) := hI.at 24 rfl d24
  have z36 : L 36 = false := by
    cases q36 : L 36 with
    | false => rfl
    | true =>
      have q25 : L 25 = true := hI.tr q36 (by kernel_rfl)
      rw [hL] at q25; cases q25
  have hw : X x (L 36) w := hI.wd
  rw [z36] at hw
  have hv := M25 x  w hw
  have h : R_tik14[25]? = some R_tik14[25] := rfl
  conv at h => rhs; arg 1; whnf
  simp only [wpOp, h]
  rw [if_pos (by rfl)]
  left
  go_simp
  exact ⟨x, hI.put (tik14_nodup bu ini li rd p l q now zs wn st ct nq nf wt _) 25 ho hd _ _ _ rfl (.inr (rfl)) (by intro e he; cases he; exact hz ▸ (by decide : (140 : Nat) < 201)) hI.wd⟩
theorem tik14_26 (t0 : Array Value) (hz : t0.size = 201) (ht0 : t0[0]? = some (.pointer (some ⟨p, 0, none⟩))) (Q : Exit → Act → World → Prop) : RStepX Tryz.prog R_tik14 (lay_tik14 bu ini li rd p l q now zs wn st ct nq nf wt) t0 (fun x L => X x (L 36)) Q 26 := by
  intro x L o a w ho hL hd hI
  have f0 : a.tmps[0]? = some (.pointer (some ⟨p, 0, none⟩)) := hI.from ht0 rfl
  have h : R_tik14[26]? = some R_tik14[26] := rfl
  conv at h => rhs; arg 1; whnf
  simp only [wpOp, h]
  rw [if_pos (by rfl)]
  left
  go_simp
  exact ⟨x, hI.put (tik14_nodup bu ini li rd p l q now zs wn st ct nq nf wt _) 26 ho hd _ _ _ rfl (.inr (rfl)) (by intro e he; cases he; exact hz ▸ (by decide : (141 : Nat) < 201)) hI.wd⟩
theorem tik14_27 (C27 : ∀ (x : ((Option Addr × Nat) × (Option Addr × Nat))) (w : World), X x false w → Calls Tryz.prog 33 #[.pointer (some ⟨p, 0, none⟩)] w fun e w' => e = .returned (.pointer (some ⟨q, 0, none⟩)) ∧ X x false w') (t0 : Array Value) (hz : t0.size = 201) (Q : Exit → Act → World → Prop) : RStepX Tryz.prog R_tik14 (lay_tik14 bu ini li rd p l q now zs wn st ct nq nf wt) t0 (fun x L => X x (L 36)) Q 27 := by
  intro x L o a w ho hL hd hI
  have d26 : L 26 = true := dep_spec ho hd (k := 26) (by kernel_rfl)
  have f141 : a.tmps[141]? = some (.pointer (some ⟨p, 0, none⟩)) := hI.at 26 rfl d26
  have z36 : L 36 = false := by
    cases q36 : L 36 with
    | false => rfl
    | true =>
      have q27 : L 27 = true := hI.tr q36 (by kernel_rfl)
      rw [hL] at q27; cases q27
  have hw : X x (L 36) w := hI.wd
  rw [z36] at hw
  have h : R_tik14[27]? = some R_tik14[27] := rfl
  conv at h => rhs; arg 1; whnf
  simp only [wpOp, h]
  rw [if_pos (by rfl)]
  left
  go_simp
  refine (C27 x  w hw).mono ?_
  rintro e w' ⟨rfl, hx⟩
  have hx2 : X x (L 36) w' := by
    rw [z36]
    exact hx
  exact ⟨x, ((hI.rewd (Wd' := fun _ _ => True) (w' := w) trivial).put (w' := w) (tik14_nodup bu ini li rd p l q now zs wn st ct nq nf wt _) 27 ho hd _ _ _ rfl (.inr (rfl)) (by intro e he; cases he; exact hz ▸ (by decide : (142 : Nat) < 201)) trivial).rewd hx2⟩
theorem tik14_28 (C28 : ∀ (x : ((Option Addr × Nat) × (Option Addr × Nat))) (w : World), X x false w → Calls Tryz.prog 34 #[.pointer (some ⟨q, 0, none⟩)] w fun e w' => ∃ y : (Option Addr × Nat), e = .returned (.slice (y.1) (nq) (y.2)) ∧ X (y, x.2) false w') (t0 : Array Value) (hz : t0.size = 201) (Q : Exit → Act → World → Prop) : RStepX Tryz.prog R_tik14 (lay_tik14 bu ini li rd p l q now zs wn st ct nq nf wt) t0 (fun x L => X x (L 36)) Q 28 := by
  intro x L o a w ho hL hd hI
  have d27 : L 27 = true := dep_spec ho hd (k := 27) (by kernel_rfl)
  have f142 : a.tmps[142]? = some (.pointer (some ⟨q, 0, none⟩)) := hI.at 27 rfl d27
  have z36 : L 36 = false := by
    cases q36 : L 36 with
    | false => rfl
    | true =>
      have q28 : L 28 = true := hI.tr q36 (by kernel_rfl)
      rw [hL] at q28; cases q28
  have hw : X x (L 36) w := hI.wd
  rw [z36] at hw
  have h : R_tik14[28]? = some R_tik14[28] := rfl
  conv at h => rhs; arg 1; whnf
  simp only [wpOp, h]
  rw [if_pos (by rfl)]
  left
  go_simp
  refine (C28 x  w hw).mono ?_
  rintro e w' ⟨y, rfl, hx⟩
  have hx2 : X (y, x.2) (L 36) w' := by
    rw [z36]
    exact hx
  have n29 : L 29 = false := by
    cases q29 : L 29 with
    | false => rfl
    | true =>
      have q28 : L 28 = true := hI.tr q29 (by kernel_rfl)
      rw [hL] at q28; cases q28
  have n33 : L 33 = false := by
    cases q33 : L 33 with
    | false => rfl
    | true =>
      have q29 : L 29 = true := hI.tr q33 (by kernel_rfl)
      have q28 : L 28 = true := hI.tr q29 (by kernel_rfl)
      rw [hL] at q28; cases q28
  have n36 : L 36 = false := by
    cases q36 : L 36 with
    | false => rfl
    | true =>
      have q28 : L 28 = true := hI.tr q36 (by kernel_rfl)
      rw [hL] at q28; cases q28
  have hsw : ∀ j, L j = true → ((lay_tik14 bu ini li rd p l q now zs wn st ct nq nf wt) (y, x.2))[j]? = ((lay_tik14 bu ini li rd p l q now zs wn st ct nq nf wt) x)[j]? := by
    intro j hj
    by_cases e28 : j = 28
    · subst e28; rw [hL] at hj; cases hj
    by_cases e29 : j = 29
    · subst e29; rw [n29] at hj; cases hj
    by_cases e33 : j = 33
    · subst e33; rw [n33] at hj; cases hj
    by_cases e36 : j = 36
    · subst e36; rw [n36] at hj; cases hj
    exact tik14_swap28 bu ini li rd p l q now zs wn st ct nq nf wt x _ j e28 e29 e33 e36
  have hp := (hI.swap (l' := (lay_tik14 bu ini li rd p l q now zs wn st ct nq nf wt) (y, x.2)) rfl hsw)
  exact ⟨(y, x.2), (hp.put (w' := w) (tik14_nodup bu ini li rd p l q now zs wn st ct nq nf wt _) 28 ho hd _ _ _ rfl (.inr (rfl)) (by intro e he; cases he; exact hz ▸ (by decide : (143 : Nat) < 201)) trivial).rewd hx2⟩
theorem tik14_29 (t0 : Array Value) (hz : t0.size = 201) (Q : Exit → Act → World → Prop) : RStepX Tryz.prog R_tik14 (lay_tik14 bu ini li rd p l q now zs wn st ct nq nf wt) t0 (fun x L => X x (L 36)) Q 29 := by
  intro x L o a w ho hL hd hI
  have d28 : L 28 = true := dep_spec ho hd (k := 28) (by kernel_rfl)
  have f143 : a.tmps[143]? = some (.slice (x.1.1) (nq) (x.1.2)) := hI.at 28 rfl d28
  have h : R_tik14[29]? = some R_tik14[29] := rfl
  conv at h => rhs; arg 1; whnf
  simp only [wpOp, h]
  rw [if_pos (by rfl)]
  left
  go_simp
  exact ⟨x, hI.put (tik14_nodup bu ini li rd p l q now zs wn st ct nq nf wt _) 29 ho hd _ _ _ rfl (.inr (rfl)) (by intro e he; cases he; exact hz ▸ (by decide : (144 : Nat) < 201)) hI.wd⟩
theorem tik14_30 (t0 : Array Value) (hz : t0.size = 201) (ht0 : t0[0]? = some (.pointer (some ⟨p, 0, none⟩))) (Q : Exit → Act → World → Prop) : RStepX Tryz.prog R_tik14 (lay_tik14 bu ini li rd p l q now zs wn st ct nq nf wt) t0 (fun x L => X x (L 36)) Q 30 := by
  intro x L o a w ho hL hd hI
  have f0 : a.tmps[0]? = some (.pointer (some ⟨p, 0, none⟩)) := hI.from ht0 rfl
  have h : R_tik14[30]? = some R_tik14[30] := rfl
  conv at h => rhs; arg 1; whnf
  simp only [wpOp, h]
  rw [if_pos (by rfl)]
  left
  go_simp
  exact ⟨x, hI.put (tik14_nodup bu ini li rd p l q now zs wn st ct nq nf wt _) 30 ho hd _ _ _ rfl (.inr (rfl)) (by intro e he; cases he; exact hz ▸ (by decide : (145 : Nat) < 201)) hI.wd⟩
theorem tik14_31 (C31 : ∀ (x : ((Option Addr × Nat) × (Option Addr × Nat))) (w : World), X x false w → Calls Tryz.prog 52 #[.pointer (some ⟨p, 0, none⟩)] w fun e w' => ∃ y : (Option Addr × Nat), e = .returned (.slice (y.1) (nf) (y.2)) ∧ X (x.1, y) false w') (t0 : Array Value) (hz : t0.size = 201) (Q : Exit → Act → World → Prop) : RStepX Tryz.prog R_tik14 (lay_tik14 bu ini li rd p l q now zs wn st ct nq nf wt) t0 (fun x L => X x (L 36)) Q 31 := by
  intro x L o a w ho hL hd hI
  have d30 : L 30 = true := dep_spec ho hd (k := 30) (by kernel_rfl)
  have f145 : a.tmps[145]? = some (.pointer (some ⟨p, 0, none⟩)) := hI.at 30 rfl d30
  have z36 : L 36 = false := by
    cases q36 : L 36 with
    | false => rfl
    | true =>
      have q31 : L 31 = true := hI.tr q36 (by kernel_rfl)
      rw [hL] at q31; cases q31
  have hw : X x (L 36) w := hI.wd
  rw [z36] at hw
  have h : R_tik14[31]? = some R_tik14[31] := rfl
  conv at h => rhs; arg 1; whnf
  simp only [wpOp, h]
  rw [if_pos (by rfl)]
  left
  go_simp
  refine (C31 x  w hw).mono ?_
  rintro e w' ⟨y, rfl, hx⟩
  have hx2 : X (x.1, y) (L 36) w' := by
    rw [z36]
    exact hx
  have n32 : L 32 = false := by
    cases q32 : L 32 with
    | false => rfl
    | true =>
      have q31 : L 31 = true := hI.tr q32 (by kernel_rfl)
      rw [hL] at q31; cases q31
  have n33 : L 33 = false := by
    cases q33 : L 33 with
    | false => rfl
    | true =>
      have q31 : L 31 = true := hI.tr q33 (by kernel_rfl)
      rw [hL] at q31; cases q31
  have n36 : L 36 = false := by
    cases q36 : L 36 with
    | false => rfl
    | true =>
      have q31 : L 31 = true := hI.tr q36 (by kernel_rfl)
      rw [hL] at q31; cases q31
  have hsw : ∀ j, L j = true → ((lay_tik14 bu ini li rd p l q now zs wn st ct nq nf wt) (x.1, y))[j]? = ((lay_tik14 bu ini li rd p l q now zs wn st ct nq nf wt) x)[j]? := by
    intro j hj
    by_cases e31 : j = 31
    · subst e31; rw [hL] at hj; cases hj
    by_cases e32 : j = 32
    · subst e32; rw [n32] at hj; cases hj
    by_cases e33 : j = 33
    · subst e33; rw [n33] at hj; cases hj
    by_cases e36 : j = 36
    · subst e36; rw [n36] at hj; cases hj
    exact tik14_swap31 bu ini li rd p l q now zs wn st ct nq nf wt x _ j e31 e32 e33 e36
  have hp := (hI.swap (l' := (lay_tik14 bu ini li rd p l q now zs wn st ct nq nf wt) (x.1, y)) rfl hsw)
  exact ⟨(x.1, y), (hp.put (w' := w) (tik14_nodup bu ini li rd p l q now zs wn st ct nq nf wt _) 31 ho hd _ _ _ rfl (.inr (rfl)) (by intro e he; cases he; exact hz ▸ (by decide : (146 : Nat) < 201)) trivial).rewd hx2⟩
theorem tik14_32 (t0 : Array Value) (hz : t0.size = 201) (Q : Exit → Act → World → Prop) : RStepX Tryz.prog R_tik14 (lay_tik14 bu ini li rd p l q now zs wn st ct nq nf wt) t0 (fun x L => X x (L 36)) Q 32 := by
  intro x L o a w ho hL hd hI
  have d31 : L 31 = true := dep_spec ho hd (k := 31) (by kernel_rfl)
  have f146 : a.tmps[146]? = some (.slice (x.2.1) (nf) (x.2.2)) := hI.at 31 rfl d31
  have h : R_tik14[32]? = some R_tik14[32] := rfl
  conv at h => rhs; arg 1; whnf
  simp only [wpOp, h]
  rw [if_pos (by rfl)]
  left
  go_simp
  exact ⟨x, hI.put (tik14_nodup bu ini li rd p l q now zs wn st ct nq nf wt _) 32 ho hd _ _ _ rfl (.inr (rfl)) (by intro e he; cases he; exact hz ▸ (by decide : (147 : Nat) < 201)) hI.wd⟩
theorem tik14_33 (C33 : ∀ (x : ((Option Addr × Nat) × (Option Addr × Nat))) (w : World), X x false w → Calls Tryz.prog 65 #[.agg (ca bu ini li rd), .agg #[.int .i64 zs], .int .i64 now, .int .i64 wn, .int .i64 ct, .int .i64 st, .int .i64 (nq), .int .i64 (nf)] w fun e w' => e = .returned (.int .i64 wt) ∧ X x false w') (t0 : Array Value) (hz : t0.size = 201) (Q : Exit → Act → World → Prop) : RStepX Tryz.prog R_tik14 (lay_tik14 bu ini li rd p l q now zs wn st ct nq nf wt) t0 (fun x L => X x (L 36)) Q 33 := by
  intro x L o a w ho hL hd hI
  have d4 : L 4 = true := dep_spec ho hd (k := 4) (by kernel_rfl)
  have f119 : a.tmps[119]? = some (.agg (ca bu ini li rd)) := hI.at 4 rfl d4
  have d8 : L 8 = true := dep_spec ho hd (k := 8) (by kernel_rfl)
  have f123 : a.tmps[123]? = some (.agg #[.int .i64 zs]) := hI.at 8 rfl d8
  have d12 : L 12 = true := dep_spec ho hd (k := 12) (by kernel_rfl)
  have f127 : a.tmps[127]? = some (.int .i64 now) := hI.at 12 rfl d12
  have d17 : L 17 = true := dep_spec ho hd (k := 17) (by kernel_rfl)
  have f132 : a.tmps[132]? = some (.int .i64 wn) := hI.at 17 rfl d17
  have d20 : L 20 = true := dep_spec ho hd (k := 20) (by kernel_rfl)
  have f135 : a.tmps[135]? = some (.int .i64 ct) := hI.at 20 rfl d20
  have d25 : L 25 = true := dep_spec ho hd (k := 25) (by kernel_rfl)
  have f140 : a.tmps[140]? = some (.int .i64 st) := hI.at 25 rfl d25
  have d29 : L 29 = true := dep_spec ho hd (k := 29) (by kernel_rfl)
  have f144 : a.tmps[144]? = some (.int .i64 (nq)) := hI.at 29 rfl d29
  have d32 : L 32 = true := dep_spec ho hd (k := 32) (by kernel_rfl)
  have f147 : a.tmps[147]? = some (.int .i64 (nf)) := hI.at 32 rfl d32
  have z36 : L 36 = false := by
    cases q36 : L 36 with
    | false => rfl
    | true =>
      have q33 : L 33 = true := hI.tr q36 (by kernel_rfl)
      rw [hL] at q33; cases q33
  have hw : X x (L 36) w := hI.wd
  rw [z36] at hw
  have h : R_tik14[33]? = some R_tik14[33] := rfl
  conv at h => rhs; arg 1; whnf
  simp only [wpOp, h]
  rw [if_pos (by rfl)]
  left
  go_simp
  refine (C33 x  w hw).mono ?_
  rintro e w' ⟨rfl, hx⟩
  have hx2 : X x (L 36) w' := by
    rw [z36]
    exact hx
  exact ⟨x, ((hI.rewd (Wd' := fun _ _ => True) (w' := w) trivial).put (w' := w) (tik14_nodup bu ini li rd p l q now zs wn st ct nq nf wt _) 33 ho hd _ _ _ rfl (.inr (rfl)) (by intro e he; cases he; exact hz ▸ (by decide : (148 : Nat) < 201)) trivial).rewd hx2⟩
theorem tik14_34 (t0 : Array Value) (hz : t0.size = 201) (Q : Exit → Act → World → Prop) : RStepX Tryz.prog R_tik14 (lay_tik14 bu ini li rd p l q now zs wn st ct nq nf wt) t0 (fun x L => X x (L 36)) Q 34 := by
  intro x L o a w ho hL hd hI
  have d0 : L 0 = true := dep_spec ho hd (k := 0) (by kernel_rfl)
  have f115 : a.tmps[115]? = some (.pointer (some ⟨p, 0, none⟩)) := hI.at 0 rfl d0
  have h : R_tik14[34]? = some R_tik14[34] := rfl
  conv at h => rhs; arg 1; whnf
  simp only [wpOp, h]
  rw [if_pos (by rfl)]
  left
  go_simp
  exact ⟨x, hI.put (tik14_nodup bu ini li rd p l q now zs wn st ct nq nf wt _) 34 ho hd _ _ _ rfl (.inr (rfl)) (by intro e he; cases he; exact hz ▸ (by decide : (149 : Nat) < 201)) hI.wd⟩
theorem tik14_35 (t0 : Array Value) (hz : t0.size = 201) (Q : Exit → Act → World → Prop) : RStepX Tryz.prog R_tik14 (lay_tik14 bu ini li rd p l q now zs wn st ct nq nf wt) t0 (fun x L => X x (L 36)) Q 35 := by
  intro x L o a w ho hL hd hI
  have d34 : L 34 = true := dep_spec ho hd (k := 34) (by kernel_rfl)
  have f149 : a.tmps[149]? = some (.pointer (some ⟨p, 0, none⟩)) := hI.at 34 rfl d34
  have h : R_tik14[35]? = some R_tik14[35] := rfl
  conv at h => rhs; arg 1; whnf
  simp only [wpOp, h]
  rw [if_pos (by rfl)]
  left
  go_simp
  exact ⟨x, hI.put (tik14_nodup bu ini li rd p l q now zs wn st ct nq nf wt _) 35 ho hd _ _ _ rfl (.inr (rfl)) (by intro e he; cases he; exact hz ▸ (by decide : (150 : Nat) < 201)) hI.wd⟩
theorem tik14_36 (S36 : ∀ (x : ((Option Addr × Nat) × (Option Addr × Nat))) (w : World), X x false w → ∃ u0, w.cell? ⟨p, 29, none⟩ = some u0 ∧ w.frozen? ⟨p, 29, none⟩ = false ∧ X x true (w.setCell ⟨p, 29, none⟩ (.int .i64 wt))) (t0 : Array Value) (hz : t0.size = 201) (Q : Exit → Act → World → Prop) : RStepX Tryz.prog R_tik14 (lay_tik14 bu ini li rd p l q now zs wn st ct nq nf wt) t0 (fun x L => X x (L 36)) Q 36 := by
  intro x L o a w ho hL hd hI
  have _ := hz
  have d35 : L 35 = true := dep_spec ho hd (k := 35) (by kernel_rfl)
  have f150 : a.tmps[150]? = some (.pointer (some ⟨p, 29, none⟩)) := hI.at 35 rfl d35
  have d33 : L 33 = true := dep_spec ho hd (k := 33) (by kernel_rfl)
  have f148 : a.tmps[148]? = some (.int .i64 wt) := hI.at 33 rfl d33
  have z36 : L 36 = false := hL
  have hw : X x (L 36) w := hI.wd
  rw [z36] at hw
  obtain ⟨u0, c0, g0, hx⟩ := S36 x  w hw
  have h : R_tik14[36]? = some R_tik14[36] := rfl
  conv at h => rhs; arg 1; whnf
  simp only [wpOp, h]
  rw [if_pos (by rfl)]
  left
  go_simp
  have hx2 : X x true (w.setCell ⟨p, 29, none⟩ (.int .i64 wt)) := by
    exact hx
  exact ⟨x, ((hI.rewd (Wd' := fun _ _ => True) (w' := w) trivial).put (w' := w) (tik14_nodup bu ini li rd p l q now zs wn st ct nq nf wt _) 36 ho hd none undef undef rfl (.inl rfl) (by intro e he; cases he) trivial).rewd hx2⟩
theorem tik14_step (M4 : ∀ (x : ((Option Addr × Nat) × (Option Addr × Nat))) (w : World), X x false w → rowOf w p (0) 20 = some (.agg (ca bu ini li rd))) (M8 : ∀ (x : ((Option Addr × Nat) × (Option Addr × Nat))) (w : World), X x false w → w.cell? ⟨p, 31, none⟩ = some (.int .i64 zs)) (M12 : ∀ (x : ((Option Addr × Nat) × (Option Addr × Nat))) (w : World), X x false w → w.cell? ⟨p, 20, none⟩ = some (.int .i64 now)) (M17 : ∀ (x : ((Option Addr × Nat) × (Option Addr × Nat))) (w : World), X x false w → w.cell? ⟨p, 26, none⟩ = some (.int .i64 wn)) (M25 : ∀ (x : ((Option Addr × Nat) × (Option Addr × Nat))) (w : World), X x false w → w.cell? ⟨p, 24, none⟩ = some (.int .i64 st)) (C19 : ∀ (x : ((Option Addr × Nat) × (Option Addr × Nat))) (w : World), X x false w → Calls Tryz.prog 21 #[.pointer (some ⟨p, 0, none⟩)] w fun e w' => e = .returned (.pointer (some ⟨l, 0, none⟩)) ∧ X x false w') (C20 : ∀ (x : ((Option Addr × Nat) × (Option Addr × Nat))) (w : World), X x false w → Calls Tryz.prog 43 #[.pointer (some ⟨l, 0, none⟩)] w fun e w' => e = .returned (.int .i64 ct) ∧ X x false w') (C27 : ∀ (x : ((Option Addr × Nat) × (Option Addr × Nat))) (w : World), X x false w → Calls Tryz.prog 33 #[.pointer (some ⟨p, 0, none⟩)] w fun e w' => e = .returned (.pointer (some ⟨q, 0, none⟩)) ∧ X x false w') (C28 : ∀ (x : ((Option Addr × Nat) × (Option Addr × Nat))) (w : World), X x false w → Calls Tryz.prog 34 #[.pointer (some ⟨q, 0, none⟩)] w fun e w' => ∃ y : (Option Addr × Nat), e = .returned (.slice (y.1) (nq) (y.2)) ∧ X (y, x.2) false w') (C31 : ∀ (x : ((Option Addr × Nat) × (Option Addr × Nat))) (w : World), X x false w → Calls Tryz.prog 52 #[.pointer (some ⟨p, 0, none⟩)] w fun e w' => ∃ y : (Option Addr × Nat), e = .returned (.slice (y.1) (nf) (y.2)) ∧ X (x.1, y) false w') (C33 : ∀ (x : ((Option Addr × Nat) × (Option Addr × Nat))) (w : World), X x false w → Calls Tryz.prog 65 #[.agg (ca bu ini li rd), .agg #[.int .i64 zs], .int .i64 now, .int .i64 wn, .int .i64 ct, .int .i64 st, .int .i64 (nq), .int .i64 (nf)] w fun e w' => e = .returned (.int .i64 wt) ∧ X x false w') (S36 : ∀ (x : ((Option Addr × Nat) × (Option Addr × Nat))) (w : World), X x false w → ∃ u0, w.cell? ⟨p, 29, none⟩ = some u0 ∧ w.frozen? ⟨p, 29, none⟩ = false ∧ X x true (w.setCell ⟨p, 29, none⟩ (.int .i64 wt))) (t0 : Array Value) (hz : t0.size = 201) (ht0 : t0[0]? = some (.pointer (some ⟨p, 0, none⟩))) (Q : Exit → Act → World → Prop) : ∀ i, i < 37 → RStepX Tryz.prog R_tik14 (lay_tik14 bu ini li rd p l q now zs wn st ct nq nf wt) t0 (fun x L => X x (L 36)) Q i
  | 0, _ => tik14_0 bu ini li rd p l q now zs wn st ct nq nf wt X   t0 hz ht0 Q
  | 1, _ => tik14_1 bu ini li rd p l q now zs wn st ct nq nf wt X   t0 hz ht0 Q
  | 2, _ => tik14_2 bu ini li rd p l q now zs wn st ct nq nf wt X   t0 hz  Q
  | 3, _ => tik14_3 bu ini li rd p l q now zs wn st ct nq nf wt X   t0 hz  Q
  | 4, _ => tik14_4 bu ini li rd p l q now zs wn st ct nq nf wt X  M4 t0 hz  Q
  | 5, _ => tik14_5 bu ini li rd p l q now zs wn st ct nq nf wt X   t0 hz ht0 Q
  | 6, _ => tik14_6 bu ini li rd p l q now zs wn st ct nq nf wt X   t0 hz  Q
  | 7, _ => tik14_7 bu ini li rd p l q now zs wn st ct nq nf wt X   t0 hz  Q
  | 8, _ => tik14_8 bu ini li rd p l q now zs wn st ct nq nf wt X  M8 t0 hz  Q
  | 9, _ => tik14_9 bu ini li rd p l q now zs wn st ct nq nf wt X   t0 hz ht0 Q
  | 10, _ => tik14_10 bu ini li rd p l q now zs wn st ct nq nf wt X   t0 hz  Q
  | 11, _ => tik14_11 bu ini li rd p l q now zs wn st ct nq nf wt X   t0 hz  Q
  | 12, _ => tik14_12 bu ini li rd p l q now zs wn st ct nq nf wt X  M12 t0 hz  Q
  | 13, _ => tik14_13 bu ini li rd p l q now zs wn st ct nq nf wt X   t0 hz ht0 Q
  | 14, _ => tik14_14 bu ini li rd p l q now zs wn st ct nq nf wt X   t0 hz  Q
  | 15, _ => tik14_15 bu ini li rd p l q now zs wn st ct nq nf wt X   t0 hz  Q
  | 16, _ => tik14_16 bu ini li rd p l q now zs wn st ct nq nf wt X   t0 hz  Q
  | 17, _ => tik14_17 bu ini li rd p l q now zs wn st ct nq nf wt X  M17 t0 hz  Q
  | 18, _ => tik14_18 bu ini li rd p l q now zs wn st ct nq nf wt X   t0 hz ht0 Q
  | 19, _ => tik14_19 bu ini li rd p l q now zs wn st ct nq nf wt X  C19 t0 hz  Q
  | 20, _ => tik14_20 bu ini li rd p l q now zs wn st ct nq nf wt X  C20 t0 hz  Q
  | 21, _ => tik14_21 bu ini li rd p l q now zs wn st ct nq nf wt X   t0 hz ht0 Q
  | 22, _ => tik14_22 bu ini li rd p l q now zs wn st ct nq nf wt X   t0 hz  Q
  | 23, _ => tik14_23 bu ini li rd p l q now zs wn st ct nq nf wt X   t0 hz  Q
  | 24, _ => tik14_24 bu ini li rd p l q now zs wn st ct nq nf wt X   t0 hz  Q
  | 25, _ => tik14_25 bu ini li rd p l q now zs wn st ct nq nf wt X  M25 t0 hz  Q
  | 26, _ => tik14_26 bu ini li rd p l q now zs wn st ct nq nf wt X   t0 hz ht0 Q
  | 27, _ => tik14_27 bu ini li rd p l q now zs wn st ct nq nf wt X  C27 t0 hz  Q
  | 28, _ => tik14_28 bu ini li rd p l q now zs wn st ct nq nf wt X  C28 t0 hz  Q
  | 29, _ => tik14_29 bu ini li rd p l q now zs wn st ct nq nf wt X   t0 hz  Q
  | 30, _ => tik14_30 bu ini li rd p l q now zs wn st ct nq nf wt X   t0 hz ht0 Q
  | 31, _ => tik14_31 bu ini li rd p l q now zs wn st ct nq nf wt X  C31 t0 hz  Q
  | 32, _ => tik14_32 bu ini li rd p l q now zs wn st ct nq nf wt X   t0 hz  Q
  | 33, _ => tik14_33 bu ini li rd p l q now zs wn st ct nq nf wt X  C33 t0 hz  Q
  | 34, _ => tik14_34 bu ini li rd p l q now zs wn st ct nq nf wt X   t0 hz  Q
  | 35, _ => tik14_35 bu ini li rd p l q now zs wn st ct nq nf wt X   t0 hz  Q
  | 36, _ => tik14_36 bu ini li rd p l q now zs wn st ct nq nf wt X  S36 t0 hz  Q
  | k + 37, h => absurd h (by omega)
end
theorem tik14_at {ops : Array Oper} (ho : ops = R_tik14) (bu : Int) (ini : Int) (li : Int) (rd : Int) (p : Nat) (l : Nat) (q : Nat) (now : Int) (zs : Int) (wn : Int) (st : Int) (ct : Int) (nq : Nat) (nf : Nat) (wt : Int) (X : ((Option Addr × Nat) × (Option Addr × Nat)) → Bool → World → Prop)  (M4 : ∀ (x : ((Option Addr × Nat) × (Option Addr × Nat))) (w : World), X x false w → rowOf w p (0) 20 = some (.agg (ca bu ini li rd))) (M8 : ∀ (x : ((Option Addr × Nat) × (Option Addr × Nat))) (w : World), X x false w → w.cell? ⟨p, 31, none⟩ = some (.int .i64 zs)) (M12 : ∀ (x : ((Option Addr × Nat) × (Option Addr × Nat))) (w : World), X x false w → w.cell? ⟨p, 20, none⟩ = some (.int .i64 now)) (M17 : ∀ (x : ((Option Addr × Nat) × (Option Addr × Nat))) (w : World), X x false w → w.cell? ⟨p, 26, none⟩ = some (.int .i64 wn)) (M25 : ∀ (x : ((Option Addr × Nat) × (Option Addr × Nat))) (w : World), X x false w → w.cell? ⟨p, 24, none⟩ = some (.int .i64 st)) (C19 : ∀ (x : ((Option Addr × Nat) × (Option Addr × Nat))) (w : World), X x false w → Calls Tryz.prog 21 #[.pointer (some ⟨p, 0, none⟩)] w fun e w' => e = .returned (.pointer (some ⟨l, 0, none⟩)) ∧ X x false w') (C20 : ∀ (x : ((Option Addr × Nat) × (Option Addr × Nat))) (w : World), X x false w → Calls Tryz.prog 43 #[.pointer (some ⟨l, 0, none⟩)] w fun e w' => e = .returned (.int .i64 ct) ∧ X x false w') (C27 : ∀ (x : ((Option Addr × Nat) × (Option Addr × Nat))) (w : World), X x false w → Calls Tryz.prog 33 #[.pointer (some ⟨p, 0, none⟩)] w fun e w' => e = .returned (.pointer (some ⟨q, 0, none⟩)) ∧ X x false w') (C28 : ∀ (x : ((Option Addr × Nat) × (Option Addr × Nat))) (w : World), X x false w → Calls Tryz.prog 34 #[.pointer (some ⟨q, 0, none⟩)] w fun e w' => ∃ y : (Option Addr × Nat), e = .returned (.slice (y.1) (nq) (y.2)) ∧ X (y, x.2) false w') (C31 : ∀ (x : ((Option Addr × Nat) × (Option Addr × Nat))) (w : World), X x false w → Calls Tryz.prog 52 #[.pointer (some ⟨p, 0, none⟩)] w fun e w' => ∃ y : (Option Addr × Nat), e = .returned (.slice (y.1) (nf) (y.2)) ∧ X (x.1, y) false w') (C33 : ∀ (x : ((Option Addr × Nat) × (Option Addr × Nat))) (w : World), X x false w → Calls Tryz.prog 65 #[.agg (ca bu ini li rd), .agg #[.int .i64 zs], .int .i64 now, .int .i64 wn, .int .i64 ct, .int .i64 st, .int .i64 (nq), .int .i64 (nf)] w fun e w' => e = .returned (.int .i64 wt) ∧ X x false w') (S36 : ∀ (x : ((Option Addr × Nat) × (Option Addr × Nat))) (w : World), X x false w → ∃ u0, w.cell? ⟨p, 29, none⟩ = some u0 ∧ w.frozen? ⟨p, 29, none⟩ = false ∧ X x true (w.setCell ⟨p, 29, none⟩ (.int .i64 wt))) (t0 : Array Value) (hz : t0.size = 201) (ht0 : t0[0]? = some (.pointer (some ⟨p, 0, none⟩))) {id : Nat} {Q : Exit → Act → World → Prop} {w : World} (x0 : ((Option Addr × Nat) × (Option Addr × Nat))) (start : X x0 false w.drew) (fin : ∀ x w', X x true w' → Q .normal ⟨puts ((lay_tik14 bu ini li rd p l q now zs wn st ct nq nf wt) x) t0, []⟩ w') : (Code.region id ops true).wp Tryz.prog Q ⟨t0, []⟩ w := by
  subst ho
  refine wp_regX (Wd := (fun x L => X x (L 36))) 37 rfl tik14_acyc tik14_size (fun _ => rfl) (tik14_nodup bu ini li rd p l q now zs wn st ct nq nf wt) (fun x => by rw [tik14_dsts, hz]; rfl) x0 start (fun i hi => tik14_step bu ini li rd p l q now zs wn st ct nq nf wt X  M4 M8 M12 M17 M25 C19 C20 C27 C28 C31 C33 S36 t0 hz ht0 Q i hi) fun x L w' hl hw => fin x w' ?_
  have hw : X x (L 36) w' := hw
  rw [hl 36 (by omega)] at hw
  exact hw
noncomputable def R_tik17 : Array Oper := reg Tryz.f31 17
theorem tik17_size : R_tik17.size = 8 := by kernel_rfl
theorem tik17_acyc : acycB R_tik17 = true := by kernel_rfl
/-- What the operations lay. -/
noncomputable def lay_tik17 (p : Nat) (l : Nat) (now : Int) (nn : Int) (_ : Unit) : Lay := [(some 166, .pointer (some ⟨p, 0, none⟩)),
  (some 167, .pointer (some ⟨l, 0, none⟩)),
  (some 168, .int .i64 nn),
  (some 169, .pointer (some ⟨p, 0, none⟩)),
  (some 170, .pointer (some ⟨p, 0, none⟩)),
  (some 171, .pointer (some ⟨p, 20, none⟩)),
  (some 172, .int .i64 now),
  (some 173, .int .i64 0)]
theorem tik17_dsts (p : Nat) (l : Nat) (now : Int) (nn : Int) (x : Unit) : dsts (lay_tik17 p l now nn x) = [166, 167, 168, 169, 170, 171, 172, 173] := rfl
theorem tik17_nodup (p : Nat) (l : Nat) (now : Int) (nn : Int) (x : Unit) : (dsts (lay_tik17 p l now nn x)).Nodup := by rw [tik17_dsts]; decide
section
variable (p : Nat) (l : Nat) (now : Int) (nn : Int) (X : (Unit) → Bool → World → Prop)
theorem tik17_0 (t0 : Array Value) (hz : t0.size = 201) (ht0 : t0[0]? = some (.pointer (some ⟨p, 0, none⟩))) (Q : Exit → Act → World → Prop) : RStepX Tryz.prog R_tik17 (lay_tik17 p l now nn) t0 (fun x L => X x (L 7)) Q 0 := by
  intro x L o a w ho hL hd hI
  have f0 : a.tmps[0]? = some (.pointer (some ⟨p, 0, none⟩)) := hI.from ht0 rfl
  have h : R_tik17[0]? = some R_tik17[0] := rfl
  conv at h => rhs; arg 1; whnf
  simp only [wpOp, h]
  rw [if_pos (by rfl)]
  left
  go_simp
  exact ⟨x, hI.put (tik17_nodup p l now nn _) 0 ho hd _ _ _ rfl (.inr (rfl)) (by intro e he; cases he; exact hz ▸ (by decide : (166 : Nat) < 201)) hI.wd⟩
theorem tik17_1 (C1 : ∀ (x : (Unit)) (w : World), X x false w → Calls Tryz.prog 21 #[.pointer (some ⟨p, 0, none⟩)] w fun e w' => e = .returned (.pointer (some ⟨l, 0, none⟩)) ∧ X x false w') (t0 : Array Value) (hz : t0.size = 201) (Q : Exit → Act → World → Prop) : RStepX Tryz.prog R_tik17 (lay_tik17 p l now nn) t0 (fun x L => X x (L 7)) Q 1 := by
  intro x L o a w ho hL hd hI
  have d0 : L 0 = true := dep_spec ho hd (k := 0) (by kernel_rfl)
  have f166 : a.tmps[166]? = some (.pointer (some ⟨p, 0, none⟩)) := hI.at 0 rfl d0
  have z7 : L 7 = false := by
    cases q7 : L 7 with
    | false => rfl
    | true =>
      have q1 : L 1 = true := hI.tr q7 (by kernel_rfl)
      rw [hL] at q1; cases q1
  have hw : X x (L 7) w := hI.wd
  rw [z7] at hw
  have h : R_tik17[1]? = some R_tik17[1] := rfl
  conv at h => rhs; arg 1; whnf
  simp only [wpOp, h]
  rw [if_pos (by rfl)]
  left
  go_simp
  refine (C1 x  w hw).mono ?_
  rintro e w' ⟨rfl, hx⟩
  have hx2 : X x (L 7) w' := by
    rw [z7]
    exact hx
  exact ⟨x, ((hI.rewd (Wd' := fun _ _ => True) (w' := w) trivial).put (w' := w) (tik17_nodup p l now nn _) 1 ho hd _ _ _ rfl (.inr (rfl)) (by intro e he; cases he; exact hz ▸ (by decide : (167 : Nat) < 201)) trivial).rewd hx2⟩
theorem tik17_2 (t0 : Array Value) (hz : t0.size = 201) (ht5 : t0[5]? = some (.int .i64 nn)) (Q : Exit → Act → World → Prop) : RStepX Tryz.prog R_tik17 (lay_tik17 p l now nn) t0 (fun x L => X x (L 7)) Q 2 := by
  intro x L o a w ho hL hd hI
  have f5 : a.tmps[5]? = some (.int .i64 nn) := hI.from ht5 rfl
  have h : R_tik17[2]? = some R_tik17[2] := rfl
  conv at h => rhs; arg 1; whnf
  simp only [wpOp, h]
  rw [if_pos (by rfl)]
  left
  go_simp
  exact ⟨x, hI.put (tik17_nodup p l now nn _) 2 ho hd _ _ _ rfl (.inr (rfl)) (by intro e he; cases he; exact hz ▸ (by decide : (168 : Nat) < 201)) hI.wd⟩
theorem tik17_3 (t0 : Array Value) (hz : t0.size = 201) (ht0 : t0[0]? = some (.pointer (some ⟨p, 0, none⟩))) (Q : Exit → Act → World → Prop) : RStepX Tryz.prog R_tik17 (lay_tik17 p l now nn) t0 (fun x L => X x (L 7)) Q 3 := by
  intro x L o a w ho hL hd hI
  have f0 : a.tmps[0]? = some (.pointer (some ⟨p, 0, none⟩)) := hI.from ht0 rfl
  have h : R_tik17[3]? = some R_tik17[3] := rfl
  conv at h => rhs; arg 1; whnf
  simp only [wpOp, h]
  rw [if_pos (by rfl)]
  left
  go_simp
  exact ⟨x, hI.put (tik17_nodup p l now nn _) 3 ho hd _ _ _ rfl (.inr (rfl)) (by intro e he; cases he; exact hz ▸ (by decide : (169 : Nat) < 201)) hI.wd⟩
theorem tik17_4 (t0 : Array Value) (hz : t0.size = 201) (Q : Exit → Act → World → Prop) : RStepX Tryz.prog R_tik17 (lay_tik17 p l now nn) t0 (fun x L => X x (L 7)) Q 4 := by
  intro x L o a w ho hL hd hI
  have d3 : L 3 = true := dep_spec ho hd (k := 3) (by kernel_rfl)
  have f169 : a.tmps[169]? = some (.pointer (some ⟨p, 0, none⟩)) := hI.at 3 rfl d3
  have h : R_tik17[4]? = some R_tik17[4] := rfl
  conv at h => rhs; arg 1; whnf
  simp only [wpOp, h]
  rw [if_pos (by rfl)]
  left
  go_simp
  exact ⟨x, hI.put (tik17_nodup p l now nn _) 4 ho hd _ _ _ rfl (.inr (rfl)) (by intro e he; cases he; exact hz ▸ (by decide : (170 : Nat) < 201)) hI.wd⟩
theorem tik17_5 (t0 : Array Value) (hz : t0.size = 201) (Q : Exit → Act → World → Prop) : RStepX Tryz.prog R_tik17 (lay_tik17 p l now nn) t0 (fun x L => X x (L 7)) Q 5 := by
  intro x L o a w ho hL hd hI
  have d4 : L 4 = true := dep_spec ho hd (k := 4) (by kernel_rfl)
  have f170 : a.tmps[170]? = some (.pointer (some ⟨p, 0, none⟩)) := hI.at 4 rfl d4
  have h : R_tik17[5]? = some R_tik17[5] := rfl
  conv at h => rhs; arg 1; whnf
  simp only [wpOp, h]
  rw [if_pos (by rfl)]
  left
  go_simp
  exact ⟨x, hI.put (tik17_nodup p l now nn _) 5 ho hd _ _ _ rfl (.inr (rfl)) (by intro e he; cases he; exact hz ▸ (by decide : (171 : Nat) < 201)) hI.wd⟩
theorem tik17_6 (M6 : ∀ (x : (Unit)) (w : World), X x false w → w.cell? ⟨p, 20, none⟩ = some (.int .i64 now)) (t0 : Array Value) (hz : t0.size = 201) (Q : Exit → Act → World → Prop) : RStepX Tryz.prog R_tik17 (lay_tik17 p l now nn) t0 (fun x L => X x (L 7)) Q 6 := by
  intro x L o a w ho hL hd hI
  have d5 : L 5 = true := dep_spec ho hd (k := 5) (by kernel_rfl)
  have f171 : a.tmps[171]? = some (.pointer (some ⟨p, 20, none⟩)) := hI.at 5 rfl d5
  have z7 : L 7 = false := by
    cases q7 : L 7 with
    | false => rfl
    | true =>
      have q6 : L 6 = true := hI.tr q7 (by kernel_rfl)
      rw [hL] at q6; cases q6
  have hw : X x (L 7) w := hI.wd
  rw [z7] at hw
  have hv := M6 x  w hw
  have h : R_tik17[6]? = some R_tik17[6] := rfl
  conv at h => rhs; arg 1; whnf
  simp only [wpOp, h]
  rw [if_pos (by rfl)]
  left
  go_simp
  exact ⟨x, hI.put (tik17_nodup p l now nn _) 6 ho hd _ _ _ rfl (.inr (rfl)) (by intro e he; cases he; exact hz ▸ (by decide : (172 : Nat) < 201)) hI.wd⟩
theorem tik17_7 (C7 : ∀ (x : (Unit)) (w : World), X x false w → Calls Tryz.prog 22 #[.pointer (some ⟨l, 0, none⟩), .int .i64 nn, .int .i64 now] w fun e w' => e = .returned (.int .i64 0) ∧ X x true w') (t0 : Array Value) (hz : t0.size = 201) (Q : Exit → Act → World → Prop) : RStepX Tryz.prog R_tik17 (lay_tik17 p l now nn) t0 (fun x L => X x (L 7)) Q 7 := by
  intro x L o a w ho hL hd hI
  have d1 : L 1 = true := dep_spec ho hd (k := 1) (by kernel_rfl)
  have f167 : a.tmps[167]? = some (.pointer (some ⟨l, 0, none⟩)) := hI.at 1 rfl d1
  have d2 : L 2 = true := dep_spec ho hd (k := 2) (by kernel_rfl)
  have f168 : a.tmps[168]? = some (.int .i64 nn) := hI.at 2 rfl d2
  have d6 : L 6 = true := dep_spec ho hd (k := 6) (by kernel_rfl)
  have f172 : a.tmps[172]? = some (.int .i64 now) := hI.at 6 rfl d6
  have z7 : L 7 = false := hL
  have hw : X x (L 7) w := hI.wd
  rw [z7] at hw
  have h : R_tik17[7]? = some R_tik17[7] := rfl
  conv at h => rhs; arg 1; whnf
  simp only [wpOp, h]
  rw [if_pos (by rfl)]
  left
  go_simp
  refine (C7 x  w hw).mono ?_
  rintro e w' ⟨rfl, hx⟩
  have hx2 : X x true w' := by
    exact hx
  exact ⟨x, ((hI.rewd (Wd' := fun _ _ => True) (w' := w) trivial).put (w' := w) (tik17_nodup p l now nn _) 7 ho hd _ _ _ rfl (.inr (rfl)) (by intro e he; cases he; exact hz ▸ (by decide : (173 : Nat) < 201)) trivial).rewd hx2⟩
theorem tik17_step (M6 : ∀ (x : (Unit)) (w : World), X x false w → w.cell? ⟨p, 20, none⟩ = some (.int .i64 now)) (C1 : ∀ (x : (Unit)) (w : World), X x false w → Calls Tryz.prog 21 #[.pointer (some ⟨p, 0, none⟩)] w fun e w' => e = .returned (.pointer (some ⟨l, 0, none⟩)) ∧ X x false w') (C7 : ∀ (x : (Unit)) (w : World), X x false w → Calls Tryz.prog 22 #[.pointer (some ⟨l, 0, none⟩), .int .i64 nn, .int .i64 now] w fun e w' => e = .returned (.int .i64 0) ∧ X x true w') (t0 : Array Value) (hz : t0.size = 201) (ht0 : t0[0]? = some (.pointer (some ⟨p, 0, none⟩))) (ht5 : t0[5]? = some (.int .i64 nn)) (Q : Exit → Act → World → Prop) : ∀ i, i < 8 → RStepX Tryz.prog R_tik17 (lay_tik17 p l now nn) t0 (fun x L => X x (L 7)) Q i
  | 0, _ => tik17_0 p l now nn X   t0 hz ht0 Q
  | 1, _ => tik17_1 p l now nn X  C1 t0 hz  Q
  | 2, _ => tik17_2 p l now nn X   t0 hz ht5 Q
  | 3, _ => tik17_3 p l now nn X   t0 hz ht0 Q
  | 4, _ => tik17_4 p l now nn X   t0 hz  Q
  | 5, _ => tik17_5 p l now nn X   t0 hz  Q
  | 6, _ => tik17_6 p l now nn X  M6 t0 hz  Q
  | 7, _ => tik17_7 p l now nn X  C7 t0 hz  Q
  | k + 8, h => absurd h (by omega)
end
theorem tik17_at {ops : Array Oper} (ho : ops = R_tik17) (p : Nat) (l : Nat) (now : Int) (nn : Int) (X : (Unit) → Bool → World → Prop)  (M6 : ∀ (x : (Unit)) (w : World), X x false w → w.cell? ⟨p, 20, none⟩ = some (.int .i64 now)) (C1 : ∀ (x : (Unit)) (w : World), X x false w → Calls Tryz.prog 21 #[.pointer (some ⟨p, 0, none⟩)] w fun e w' => e = .returned (.pointer (some ⟨l, 0, none⟩)) ∧ X x false w') (C7 : ∀ (x : (Unit)) (w : World), X x false w → Calls Tryz.prog 22 #[.pointer (some ⟨l, 0, none⟩), .int .i64 nn, .int .i64 now] w fun e w' => e = .returned (.int .i64 0) ∧ X x true w') (t0 : Array Value) (hz : t0.size = 201) (ht0 : t0[0]? = some (.pointer (some ⟨p, 0, none⟩))) (ht5 : t0[5]? = some (.int .i64 nn)) {id : Nat} {Q : Exit → Act → World → Prop} {w : World} (x0 : (Unit)) (start : X x0 false w.drew) (fin : ∀ x w', X x true w' → Q .normal ⟨puts ((lay_tik17 p l now nn) x) t0, []⟩ w') : (Code.region id ops true).wp Tryz.prog Q ⟨t0, []⟩ w := by
  subst ho
  refine wp_regX (Wd := (fun x L => X x (L 7))) 8 rfl tik17_acyc tik17_size (fun _ => rfl) (tik17_nodup p l now nn) (fun x => by rw [tik17_dsts, hz]; rfl) x0 start (fun i hi => tik17_step p l now nn X  M6 C1 C7 t0 hz ht0 ht5 Q i hi) fun x L w' hl hw => fin x w' ?_
  have hw : X x (L 7) w' := hw
  rw [hl 7 (by omega)] at hw
  exact hw
noncomputable def R_tik19 : Array Oper := reg Tryz.f31 19
theorem tik19_size : R_tik19.size = 12 := by kernel_rfl
theorem tik19_acyc : acycB R_tik19 = true := by kernel_rfl
/-- What the operations lay. -/
noncomputable def lay_tik19 (p : Nat) (vt : Option Addr) (tn : Nat) (ct : Nat) (now : Int) (wt : Int) (pn : Bool) (px : Bool) (np : Nat) (nq : Nat) (bz : Int) (en0 : Int) (en1 : Int) (en2 : Int) (en3 : Int) (en4 : Int) (en5 : Int) (en6 : Int) (x : (Option Addr × Nat) × Nat × (Option Addr × Nat)) : Lay := [(some 176, .pointer (some ⟨p, 0, none⟩)),
  (some 177, .pointer (some ⟨p, 0, none⟩)),
  (some 178, .pointer (some ⟨p, 0, none⟩)),
  (some 179, .pointer (some ⟨p, 33, none⟩)),
  (some 180, .slice (vt) (tn) (ct)),
  (some 181, .pointer (some ⟨p, 0, none⟩)),
  (some 182, .agg #[.int .i64 now, .int .i64 wt, .bool pn, .bool px, .slice (x.1.1) (np) (x.1.2), .int .i64 nq, .int .i64 bz, .int .i64 en0, .int .i64 en1, .int .i64 en2, .int .i64 en3, .int .i64 en4, .int .i64 en5, .int .i64 en6, .bool false]),
  (some 183, .slice (some ⟨x.2.1, 0, none⟩) (1) (1)),
  (some 184, .slice (x.2.2.1) (tn + 1) (x.2.2.2)),
  (some 185, .pointer (some ⟨p, 0, none⟩)),
  (some 186, .pointer (some ⟨p, 33, none⟩)),
  (none, undef)]
theorem tik19_dsts (p : Nat) (vt : Option Addr) (tn : Nat) (ct : Nat) (now : Int) (wt : Int) (pn : Bool) (px : Bool) (np : Nat) (nq : Nat) (bz : Int) (en0 : Int) (en1 : Int) (en2 : Int) (en3 : Int) (en4 : Int) (en5 : Int) (en6 : Int) (x : (Option Addr × Nat) × Nat × (Option Addr × Nat)) : dsts (lay_tik19 p vt tn ct now wt pn px np nq bz en0 en1 en2 en3 en4 en5 en6 x) = [176, 177, 178, 179, 180, 181, 182, 183, 184, 185, 186] := rfl
theorem tik19_nodup (p : Nat) (vt : Option Addr) (tn : Nat) (ct : Nat) (now : Int) (wt : Int) (pn : Bool) (px : Bool) (np : Nat) (nq : Nat) (bz : Int) (en0 : Int) (en1 : Int) (en2 : Int) (en3 : Int) (en4 : Int) (en5 : Int) (en6 : Int) (x : (Option Addr × Nat) × Nat × (Option Addr × Nat)) : (dsts (lay_tik19 p vt tn ct now wt pn px np nq bz en0 en1 en2 en3 en4 en5 en6 x)).Nodup := by rw [tik19_dsts]; decide
theorem tik19_swap6 (p : Nat) (vt : Option Addr) (tn : Nat) (ct : Nat) (now : Int) (wt : Int) (pn : Bool) (px : Bool) (np : Nat) (nq : Nat) (bz : Int) (en0 : Int) (en1 : Int) (en2 : Int) (en3 : Int) (en4 : Int) (en5 : Int) (en6 : Int) (x : (Option Addr × Nat) × Nat × (Option Addr × Nat)) (y : (Option Addr × Nat)) (j : Nat) (e6 : ¬ j = 6) (e7 : ¬ j = 7) (e8 : ¬ j = 8) (e11 : ¬ j = 11) : ((lay_tik19 p vt tn ct now wt pn px np nq bz en0 en1 en2 en3 en4 en5 en6) (y, x.2.1, x.2.2))[j]? = ((lay_tik19 p vt tn ct now wt pn px np nq bz en0 en1 en2 en3 en4 en5 en6) x)[j]? := by
  have h : (lay_tik19 p vt tn ct now wt pn px np nq bz en0 en1 en2 en3 en4 en5 en6) (y, x.2.1, x.2.2) = ((((((lay_tik19 p vt tn ct now wt pn px np nq bz en0 en1 en2 en3 en4 en5 en6) x).set 6 (some 182, .agg #[.int .i64 now, .int .i64 wt, .bool pn, .bool px, .slice (y.1) (np) (y.2), .int .i64 nq, .int .i64 bz, .int .i64 en0, .int .i64 en1, .int .i64 en2, .int .i64 en3, .int .i64 en4, .int .i64 en5, .int .i64 en6, .bool false])).set 7 (some 183, .slice (some ⟨x.2.1, 0, none⟩) (1) (1))).set 8 (some 184, .slice (x.2.2.1) (tn + 1) (x.2.2.2))).set 11 (none, undef)) := rfl
  rw [h, List.getElem?_set_ne (fun h => e11 h.symm), List.getElem?_set_ne (fun h => e8 h.symm), List.getElem?_set_ne (fun h => e7 h.symm), List.getElem?_set_ne (fun h => e6 h.symm)]
theorem tik19_swap7 (p : Nat) (vt : Option Addr) (tn : Nat) (ct : Nat) (now : Int) (wt : Int) (pn : Bool) (px : Bool) (np : Nat) (nq : Nat) (bz : Int) (en0 : Int) (en1 : Int) (en2 : Int) (en3 : Int) (en4 : Int) (en5 : Int) (en6 : Int) (x : (Option Addr × Nat) × Nat × (Option Addr × Nat)) (y : Nat) (j : Nat) (e7 : ¬ j = 7) (e8 : ¬ j = 8) (e11 : ¬ j = 11) : ((lay_tik19 p vt tn ct now wt pn px np nq bz en0 en1 en2 en3 en4 en5 en6) (x.1, y, x.2.2))[j]? = ((lay_tik19 p vt tn ct now wt pn px np nq bz en0 en1 en2 en3 en4 en5 en6) x)[j]? := by
  have h : (lay_tik19 p vt tn ct now wt pn px np nq bz en0 en1 en2 en3 en4 en5 en6) (x.1, y, x.2.2) = (((((lay_tik19 p vt tn ct now wt pn px np nq bz en0 en1 en2 en3 en4 en5 en6) x).set 7 (some 183, .slice (some ⟨y, 0, none⟩) (1) (1))).set 8 (some 184, .slice (x.2.2.1) (tn + 1) (x.2.2.2))).set 11 (none, undef)) := rfl
  rw [h, List.getElem?_set_ne (fun h => e11 h.symm), List.getElem?_set_ne (fun h => e8 h.symm), List.getElem?_set_ne (fun h => e7 h.symm)]
theorem tik19_swap8 (p : Nat) (vt : Option Addr) (tn : Nat) (ct : Nat) (now : Int) (wt : Int) (pn : Bool) (px : Bool) (np : Nat) (nq : Nat) (bz : Int) (en0 : Int) (en1 : Int) (en2 : Int) (en3 : Int) (en4 : Int) (en5 : Int) (en6 : Int) (x : (Option Addr × Nat) × Nat × (Option Addr × Nat)) (y : (Option Addr × Nat)) (j : Nat) (e8 : ¬ j = 8) (e11 : ¬ j = 11) : ((lay_tik19 p vt tn ct now wt pn px np nq bz en0 en1 en2 en3 en4 en5 en6) (x.1, x.2.1, y))[j]? = ((lay_tik19 p vt tn ct now wt pn px np nq bz en0 en1 en2 en3 en4 en5 en6) x)[j]? := by
  have h : (lay_tik19 p vt tn ct now wt pn px np nq bz en0 en1 en2 en3 en4 en5 en6) (x.1, x.2.1, y) = ((((lay_tik19 p vt tn ct now wt pn px np nq bz en0 en1 en2 en3 en4 en5 en6) x).set 8 (some 184, .slice (y.1) (tn + 1) (y.2))).set 11 (none, undef)) := rfl
  rw [h, List.getElem?_set_ne (fun h => e11 h.symm), List.getElem?_set_ne (fun h => e8 h.symm)]
section
variable (p : Nat) (vt : Option Addr) (tn : Nat) (ct : Nat) (now : Int) (wt : Int) (pn : Bool) (px : Bool) (np : Nat) (nq : Nat) (bz : Int) (en0 : Int) (en1 : Int) (en2 : Int) (en3 : Int) (en4 : Int) (en5 : Int) (en6 : Int) (X : ((Option Addr × Nat) × Nat × (Option Addr × Nat)) → Bool → Bool → Bool → Bool → World → Prop)
theorem tik19_0 (t0 : Array Value) (hz : t0.size = 201) (ht0 : t0[0]? = some (.pointer (some ⟨p, 0, none⟩))) (Q : Exit → Act → World → Prop) : RStepX Tryz.prog R_tik19 (lay_tik19 p vt tn ct now wt pn px np nq bz en0 en1 en2 en3 en4 en5 en6) t0 (fun x L => X x (L 6) (L 7) (L 8) (L 11)) Q 0 := by
  intro x L o a w ho hL hd hI
  have f0 : a.tmps[0]? = some (.pointer (some ⟨p, 0, none⟩)) := hI.from ht0 rfl
  have h : R_tik19[0]? = some R_tik19[0] := rfl
  conv at h => rhs; arg 1; whnf
  simp only [wpOp, h]
  rw [if_pos (by rfl)]
  left
  go_simp
  exact ⟨x, hI.put (tik19_nodup p vt tn ct now wt pn px np nq bz en0 en1 en2 en3 en4 en5 en6 _) 0 ho hd _ _ _ rfl (.inr (rfl)) (by intro e he; cases he; exact hz ▸ (by decide : (176 : Nat) < 201)) hI.wd⟩
theorem tik19_1 (t0 : Array Value) (hz : t0.size = 201) (ht0 : t0[0]? = some (.pointer (some ⟨p, 0, none⟩))) (Q : Exit → Act → World → Prop) : RStepX Tryz.prog R_tik19 (lay_tik19 p vt tn ct now wt pn px np nq bz en0 en1 en2 en3 en4 en5 en6) t0 (fun x L => X x (L 6) (L 7) (L 8) (L 11)) Q 1 := by
  intro x L o a w ho hL hd hI
  have f0 : a.tmps[0]? = some (.pointer (some ⟨p, 0, none⟩)) := hI.from ht0 rfl
  have h : R_tik19[1]? = some R_tik19[1] := rfl
  conv at h => rhs; arg 1; whnf
  simp only [wpOp, h]
  rw [if_pos (by rfl)]
  left
  go_simp
  exact ⟨x, hI.put (tik19_nodup p vt tn ct now wt pn px np nq bz en0 en1 en2 en3 en4 en5 en6 _) 1 ho hd _ _ _ rfl (.inr (rfl)) (by intro e he; cases he; exact hz ▸ (by decide : (177 : Nat) < 201)) hI.wd⟩
theorem tik19_2 (t0 : Array Value) (hz : t0.size = 201) (Q : Exit → Act → World → Prop) : RStepX Tryz.prog R_tik19 (lay_tik19 p vt tn ct now wt pn px np nq bz en0 en1 en2 en3 en4 en5 en6) t0 (fun x L => X x (L 6) (L 7) (L 8) (L 11)) Q 2 := by
  intro x L o a w ho hL hd hI
  have d1 : L 1 = true := dep_spec ho hd (k := 1) (by kernel_rfl)
  have f177 : a.tmps[177]? = some (.pointer (some ⟨p, 0, none⟩)) := hI.at 1 rfl d1
  have h : R_tik19[2]? = some R_tik19[2] := rfl
  conv at h => rhs; arg 1; whnf
  simp only [wpOp, h]
  rw [if_pos (by rfl)]
  left
  go_simp
  exact ⟨x, hI.put (tik19_nodup p vt tn ct now wt pn px np nq bz en0 en1 en2 en3 en4 en5 en6 _) 2 ho hd _ _ _ rfl (.inr (rfl)) (by intro e he; cases he; exact hz ▸ (by decide : (178 : Nat) < 201)) hI.wd⟩
theorem tik19_3 (t0 : Array Value) (hz : t0.size = 201) (Q : Exit → Act → World → Prop) : RStepX Tryz.prog R_tik19 (lay_tik19 p vt tn ct now wt pn px np nq bz en0 en1 en2 en3 en4 en5 en6) t0 (fun x L => X x (L 6) (L 7) (L 8) (L 11)) Q 3 := by
  intro x L o a w ho hL hd hI
  have d2 : L 2 = true := dep_spec ho hd (k := 2) (by kernel_rfl)
  have f178 : a.tmps[178]? = some (.pointer (some ⟨p, 0, none⟩)) := hI.at 2 rfl d2
  have h : R_tik19[3]? = some R_tik19[3] := rfl
  conv at h => rhs; arg 1; whnf
  simp only [wpOp, h]
  rw [if_pos (by rfl)]
  left
  go_simp
  exact ⟨x, hI.put (tik19_nodup p vt tn ct now wt pn px np nq bz en0 en1 en2 en3 en4 en5 en6 _) 3 ho hd _ _ _ rfl (.inr (rfl)) (by intro e he; cases he; exact hz ▸ (by decide : (179 : Nat) < 201)) hI.wd⟩
theorem tik19_4 (M4 : ∀ (x : ((Option Addr × Nat) × Nat × (Option Addr × Nat))) (b0 : Bool) (b1 : Bool) (w : World), X x b0 b1 false false w → w.cell? ⟨p, 33, none⟩ = some (.slice (vt) (tn) (ct))) (t0 : Array Value) (hz : t0.size = 201) (Q : Exit → Act → World → Prop) : RStepX Tryz.prog R_tik19 (lay_tik19 p vt tn ct now wt pn px np nq bz en0 en1 en2 en3 en4 en5 en6) t0 (fun x L => X x (L 6) (L 7) (L 8) (L 11)) Q 4 := by
  intro x L o a w ho hL hd hI
  have d3 : L 3 = true := dep_spec ho hd (k := 3) (by kernel_rfl)
  have f179 : a.tmps[179]? = some (.pointer (some ⟨p, 33, none⟩)) := hI.at 3 rfl d3
  have z8 : L 8 = false := by
    cases q8 : L 8 with
    | false => rfl
    | true =>
      have q4 : L 4 = true := hI.tr q8 (by kernel_rfl)
      rw [hL] at q4; cases q4
  have z11 : L 11 = false := by
    cases q11 : L 11 with
    | false => rfl
    | true =>
      have q4 : L 4 = true := hI.tr q11 (by kernel_rfl)
      rw [hL] at q4; cases q4
  have hw : X x (L 6) (L 7) (L 8) (L 11) w := hI.wd
  rw [z8, z11] at hw
  have hv := M4 x (L 6) (L 7) w hw
  have h : R_tik19[4]? = some R_tik19[4] := rfl
  conv at h => rhs; arg 1; whnf
  simp only [wpOp, h]
  rw [if_pos (by rfl)]
  left
  go_simp
  exact ⟨x, hI.put (tik19_nodup p vt tn ct now wt pn px np nq bz en0 en1 en2 en3 en4 en5 en6 _) 4 ho hd _ _ _ rfl (.inr (rfl)) (by intro e he; cases he; exact hz ▸ (by decide : (180 : Nat) < 201)) hI.wd⟩
theorem tik19_5 (t0 : Array Value) (hz : t0.size = 201) (ht0 : t0[0]? = some (.pointer (some ⟨p, 0, none⟩))) (Q : Exit → Act → World → Prop) : RStepX Tryz.prog R_tik19 (lay_tik19 p vt tn ct now wt pn px np nq bz en0 en1 en2 en3 en4 en5 en6) t0 (fun x L => X x (L 6) (L 7) (L 8) (L 11)) Q 5 := by
  intro x L o a w ho hL hd hI
  have f0 : a.tmps[0]? = some (.pointer (some ⟨p, 0, none⟩)) := hI.from ht0 rfl
  have h : R_tik19[5]? = some R_tik19[5] := rfl
  conv at h => rhs; arg 1; whnf
  simp only [wpOp, h]
  rw [if_pos (by rfl)]
  left
  go_simp
  exact ⟨x, hI.put (tik19_nodup p vt tn ct now wt pn px np nq bz en0 en1 en2 en3 en4 en5 en6 _) 5 ho hd _ _ _ rfl (.inr (rfl)) (by intro e he; cases he; exact hz ▸ (by decide : (181 : Nat) < 201)) hI.wd⟩
theorem tik19_6 (C6 : ∀ (x : ((Option Addr × Nat) × Nat × (Option Addr × Nat))) (w : World), X x false false false false w → Calls Tryz.prog 13 #[.pointer (some ⟨p, 0, none⟩)] w fun e w' => ∃ y : (Option Addr × Nat), e = .returned (.agg #[.int .i64 now, .int .i64 wt, .bool pn, .bool px, .slice (y.1) (np) (y.2), .int .i64 nq, .int .i64 bz, .int .i64 en0, .int .i64 en1, .int .i64 en2, .int .i64 en3, .int .i64 en4, .int .i64 en5, .int .i64 en6, .bool false]) ∧ X (y, x.2.1, x.2.2) true false false false w') (t0 : Array Value) (hz : t0.size = 201) (Q : Exit → Act → World → Prop) : RStepX Tryz.prog R_tik19 (lay_tik19 p vt tn ct now wt pn px np nq bz en0 en1 en2 en3 en4 en5 en6) t0 (fun x L => X x (L 6) (L 7) (L 8) (L 11)) Q 6 := by
  intro x L o a w ho hL hd hI
  have d5 : L 5 = true := dep_spec ho hd (k := 5) (by kernel_rfl)
  have f181 : a.tmps[181]? = some (.pointer (some ⟨p, 0, none⟩)) := hI.at 5 rfl d5
  have z6 : L 6 = false := hL
  have z7 : L 7 = false := by
    cases q7 : L 7 with
    | false => rfl
    | true =>
      have q6 : L 6 = true := hI.tr q7 (by kernel_rfl)
      rw [hL] at q6; cases q6
  have z8 : L 8 = false := by
    cases q8 : L 8 with
    | false => rfl
    | true =>
      have q6 : L 6 = true := hI.tr q8 (by kernel_rfl)
      rw [hL] at q6; cases q6
  have z11 : L 11 = false := by
    cases q11 : L 11 with
    | false => rfl
    | true =>
      have q6 : L 6 = true := hI.tr q11 (by kernel_rfl)
      rw [hL] at q6; cases q6
  have hw : X x (L 6) (L 7) (L 8) (L 11) w := hI.wd
  rw [z6, z7, z8, z11] at hw
  have h : R_tik19[6]? = some R_tik19[6] := rfl
  conv at h => rhs; arg 1; whnf
  simp only [wpOp, h]
  rw [if_pos (by rfl)]
  left
  go_simp
  refine (C6 x  w hw).mono ?_
  rintro e w' ⟨y, rfl, hx⟩
  have hx2 : X (y, x.2.1, x.2.2) true (L 7) (L 8) (L 11) w' := by
    rw [z7, z8, z11]
    exact hx
  have n7 : L 7 = false := by
    cases q7 : L 7 with
    | false => rfl
    | true =>
      have q6 : L 6 = true := hI.tr q7 (by kernel_rfl)
      rw [hL] at q6; cases q6
  have n8 : L 8 = false := by
    cases q8 : L 8 with
    | false => rfl
    | true =>
      have q6 : L 6 = true := hI.tr q8 (by kernel_rfl)
      rw [hL] at q6; cases q6
  have n11 : L 11 = false := by
    cases q11 : L 11 with
    | false => rfl
    | true =>
      have q6 : L 6 = true := hI.tr q11 (by kernel_rfl)
      rw [hL] at q6; cases q6
  have hsw : ∀ j, L j = true → ((lay_tik19 p vt tn ct now wt pn px np nq bz en0 en1 en2 en3 en4 en5 en6) (y, x.2.1, x.2.2))[j]? = ((lay_tik19 p vt tn ct now wt pn px np nq bz en0 en1 en2 en3 en4 en5 en6) x)[j]? := by
    intro j hj
    by_cases e6 : j = 6
    · subst e6; rw [hL] at hj; cases hj
    by_cases e7 : j = 7
    · subst e7; rw [n7] at hj; cases hj
    by_cases e8 : j = 8
    · subst e8; rw [n8] at hj; cases hj
    by_cases e11 : j = 11
    · subst e11; rw [n11] at hj; cases hj
    exact tik19_swap6 p vt tn ct now wt pn px np nq bz en0 en1 en2 en3 en4 en5 en6 x _ j e6 e7 e8 e11
  have hp := (hI.swap (l' := (lay_tik19 p vt tn ct now wt pn px np nq bz en0 en1 en2 en3 en4 en5 en6) (y, x.2.1, x.2.2)) rfl hsw)
  exact ⟨(y, x.2.1, x.2.2), (hp.put (w' := w) (tik19_nodup p vt tn ct now wt pn px np nq bz en0 en1 en2 en3 en4 en5 en6 _) 6 ho hd _ _ _ rfl (.inr (rfl)) (by intro e he; cases he; exact hz ▸ (by decide : (182 : Nat) < 201)) trivial).rewd hx2⟩
theorem tik19_7 (B7 : ∀ (x : ((Option Addr × Nat) × Nat × (Option Addr × Nat))) (w : World), X x true false false false w → X (x.1, w.heap.size, x.2.2) true true false false (w.alloc (.cells #[.int .i64 now, .int .i64 wt, .bool pn, .bool px, .slice (x.1.1) (np) (x.1.2), .int .i64 nq, .int .i64 bz, .int .i64 en0, .int .i64 en1, .int .i64 en2, .int .i64 en3, .int .i64 en4, .int .i64 en5, .int .i64 en6, .bool false] 38))) (t0 : Array Value) (hz : t0.size = 201) (Q : Exit → Act → World → Prop) : RStepX Tryz.prog R_tik19 (lay_tik19 p vt tn ct now wt pn px np nq bz en0 en1 en2 en3 en4 en5 en6) t0 (fun x L => X x (L 6) (L 7) (L 8) (L 11)) Q 7 := by
  intro x L o a w ho hL hd hI
  have d6 : L 6 = true := dep_spec ho hd (k := 6) (by kernel_rfl)
  have f182 : a.tmps[182]? = some (.agg #[.int .i64 now, .int .i64 wt, .bool pn, .bool px, .slice (x.1.1) (np) (x.1.2), .int .i64 nq, .int .i64 bz, .int .i64 en0, .int .i64 en1, .int .i64 en2, .int .i64 en3, .int .i64 en4, .int .i64 en5, .int .i64 en6, .bool false]) := hI.at 6 rfl d6
  have y6 : L 6 = true := dep_spec ho hd (k := 6) (by kernel_rfl)
  have z6 : L 6 = true := y6
  have z7 : L 7 = false := hL
  have z8 : L 8 = false := by
    cases q8 : L 8 with
    | false => rfl
    | true =>
      have q7 : L 7 = true := hI.tr q8 (by kernel_rfl)
      rw [hL] at q7; cases q7
  have z11 : L 11 = false := by
    cases q11 : L 11 with
    | false => rfl
    | true =>
      have q7 : L 7 = true := hI.tr q11 (by kernel_rfl)
      rw [hL] at q7; cases q7
  have hw : X x (L 6) (L 7) (L 8) (L 11) w := hI.wd
  rw [z6, z7, z8, z11] at hw
  have hv := B7 x  w hw
  have h : R_tik19[7]? = some R_tik19[7] := rfl
  conv at h => rhs; arg 1; whnf
  simp only [wpOp, h]
  rw [if_pos (by rfl)]
  left
  go_simp
  have hx2 : X (x.1, w.heap.size, x.2.2) (L 6) true (L 8) (L 11) (w.alloc (.cells #[.int .i64 now, .int .i64 wt, .bool pn, .bool px, .slice (x.1.1) (np) (x.1.2), .int .i64 nq, .int .i64 bz, .int .i64 en0, .int .i64 en1, .int .i64 en2, .int .i64 en3, .int .i64 en4, .int .i64 en5, .int .i64 en6, .bool false] 38)) := by
    rw [z6, z8, z11]
    exact hv
  have n8 : L 8 = false := by
    cases q8 : L 8 with
    | false => rfl
    | true =>
      have q7 : L 7 = true := hI.tr q8 (by kernel_rfl)
      rw [hL] at q7; cases q7
  have n11 : L 11 = false := by
    cases q11 : L 11 with
    | false => rfl
    | true =>
      have q7 : L 7 = true := hI.tr q11 (by kernel_rfl)
      rw [hL] at q7; cases q7
  have hsw : ∀ j, L j = true → ((lay_tik19 p vt tn ct now wt pn px np nq bz en0 en1 en2 en3 en4 en5 en6) (x.1, w.heap.size, x.2.2))[j]? = ((lay_tik19 p vt tn ct now wt pn px np nq bz en0 en1 en2 en3 en4 en5 en6) x)[j]? := by
    intro j hj
    by_cases e7 : j = 7
    · subst e7; rw [hL] at hj; cases hj
    by_cases e8 : j = 8
    · subst e8; rw [n8] at hj; cases hj
    by_cases e11 : j = 11
    · subst e11; rw [n11] at hj; cases hj
    exact tik19_swap7 p vt tn ct now wt pn px np nq bz en0 en1 en2 en3 en4 en5 en6 x _ j e7 e8 e11
  have hp := (hI.swap (l' := (lay_tik19 p vt tn ct now wt pn px np nq bz en0 en1 en2 en3 en4 en5 en6) (x.1, w.heap.size, x.2.2)) rfl hsw)
  exact ⟨(x.1, w.heap.size, x.2.2), (hp.put (w' := w) (tik19_nodup p vt tn ct now wt pn px np nq bz en0 en1 en2 en3 en4 en5 en6 _) 7 ho hd _ _ _ rfl (.inr (rfl)) (by intro e he; cases he; exact hz ▸ (by decide : (183 : Nat) < 201)) trivial).rewd hx2⟩
theorem tik19_8 (B8 : ∀ (x : ((Option Addr × Nat) × Nat × (Option Addr × Nat))) (w : World), X x true true false false w → ∃ (S : Nat → Prop) (xs : List Value), Own w S 38 15 (.slice (vt) (tn) (ct)) (tn) xs ∧ (∀ j u, ([.int .i64 now, .int .i64 wt, .bool pn, .bool px, .slice (x.1.1) (np) (x.1.2), .int .i64 nq, .int .i64 bz, .int .i64 en0, .int .i64 en1, .int .i64 en2, .int .i64 en3, .int .i64 en4, .int .i64 en5, .int .i64 en6, .bool false] : List Value)[j]? = some u → w.cell? ((⟨x.2.1, 0, none⟩ : Addr).add j) = some u) ∧ (tn) + 1 ≤ maxLen ∧ ((tn) + 1) * 128 ≤ 140737488355328 ∧ ∀ g' o' c' w', Own w' (nx S w w') 38 15 (.slice (some ⟨g', o', none⟩) ((tn) + 1) c') ((tn) + 1) (xs ++ [.int .i64 now, .int .i64 wt, .bool pn, .bool px, .slice (x.1.1) (np) (x.1.2), .int .i64 nq, .int .i64 bz, .int .i64 en0, .int .i64 en1, .int .i64 en2, .int .i64 en3, .int .i64 en4, .int .i64 en5, .int .i64 en6, .bool false]) → Chg S w w' → X (x.1, x.2.1, (some ⟨g', o', none⟩, c')) true true true false w') (t0 : Array Value) (hz : t0.size = 201) (Q : Exit → Act → World → Prop) : RStepX Tryz.prog R_tik19 (lay_tik19 p vt tn ct now wt pn px np nq bz en0 en1 en2 en3 en4 en5 en6) t0 (fun x L => X x (L 6) (L 7) (L 8) (L 11)) Q 8 := by
  intro x L o a w ho hL hd hI
  have d4 : L 4 = true := dep_spec ho hd (k := 4) (by kernel_rfl)
  have f180 : a.tmps[180]? = some (.slice (vt) (tn) (ct)) := hI.at 4 rfl d4
  have d7 : L 7 = true := dep_spec ho hd (k := 7) (by kernel_rfl)
  have f183 : a.tmps[183]? = some (.slice (some ⟨x.2.1, 0, none⟩) (1) (1)) := hI.at 7 rfl d7
  have y6 : L 6 = true := dep_spec ho hd (k := 6) (by kernel_rfl)
  have z6 : L 6 = true := y6
  have y7 : L 7 = true := dep_spec ho hd (k := 7) (by kernel_rfl)
  have z7 : L 7 = true := y7
  have z8 : L 8 = false := hL
  have z11 : L 11 = false := by
    cases q11 : L 11 with
    | false => rfl
    | true =>
      have q8 : L 8 = true := hI.tr q11 (by kernel_rfl)
      rw [hL] at q8; cases q8
  have hw : X x (L 6) (L 7) (L 8) (L 11) w := hI.wd
  rw [z6, z7, z8, z11] at hw
  obtain ⟨S, xs, hown, hnews, h63, hby, hK⟩ := B8 x  w hw
  have h : R_tik19[8]? = some R_tik19[8] := rfl
  conv at h => rhs; arg 1; whnf
  simp only [wpOp, h]
  rw [if_pos (by rfl)]
  left
  obtain ⟨i0, hi, hz0, hz1, hz2⟩ := info_parts info38
  refine oper_app (.tmp 180) (.tmp 183) 64 rfl S 38 i0 _ 15 128 Tryz.underlying64 hi hz0 hz1 hz2 rfl _ _ xs (by simp [Act.eval, f180]) hown ⟨x.2.1, 0, none⟩ 1 1 [.int .i64 now, .int .i64 wt, .bool pn, .bool px, .slice (x.1.1) (np) (x.1.2), .int .i64 nq, .int .i64 bz, .int .i64 en0, .int .i64 en1, .int .i64 en2, .int .i64 en3, .int .i64 en4, .int .i64 en5, .int .i64 en6, .bool false] (by simp [Act.eval, f183]) (by decide) rfl hnews (by simp [Value.oneCell']) h63 hby ?_
  intro g' o' c' w' ho' hc'
  have hx := hK g' o' c' w' ho' hc'
  have hx2 : X (x.1, x.2.1, (some ⟨g', o', none⟩, c')) (L 6) (L 7) true (L 11) w' := by
    rw [z6, z7, z11]
    exact hx
  have n11 : L 11 = false := by
    cases q11 : L 11 with
    | false => rfl
    | true =>
      have q8 : L 8 = true := hI.tr q11 (by kernel_rfl)
      rw [hL] at q8; cases q8
  have hsw : ∀ j, L j = true → ((lay_tik19 p vt tn ct now wt pn px np nq bz en0 en1 en2 en3 en4 en5 en6) (x.1, x.2.1, (some ⟨g', o', none⟩, c')))[j]? = ((lay_tik19 p vt tn ct now wt pn px np nq bz en0 en1 en2 en3 en4 en5 en6) x)[j]? := by
    intro j hj
    by_cases e8 : j = 8
    · subst e8; rw [hL] at hj; cases hj
    by_cases e11 : j = 11
    · subst e11; rw [n11] at hj; cases hj
    exact tik19_swap8 p vt tn ct now wt pn px np nq bz en0 en1 en2 en3 en4 en5 en6 x _ j e8 e11
  have hp := (hI.swap (l' := (lay_tik19 p vt tn ct now wt pn px np nq bz en0 en1 en2 en3 en4 en5 en6) (x.1, x.2.1, (some ⟨g', o', none⟩, c'))) rfl hsw)
  exact ⟨(x.1, x.2.1, (some ⟨g', o', none⟩, c')), (hp.put (w' := w) (tik19_nodup p vt tn ct now wt pn px np nq bz en0 en1 en2 en3 en4 en5 en6 _) 8 ho hd _ _ _ rfl (.inr (rfl)) (by intro e he; cases he; exact hz ▸ (by decide : (184 : Nat) < 201)) trivial).rewd hx2⟩
theorem tik19_9 (t0 : Array Value) (hz : t0.size = 201) (Q : Exit → Act → World → Prop) : RStepX Tryz.prog R_tik19 (lay_tik19 p vt tn ct now wt pn px np nq bz en0 en1 en2 en3 en4 en5 en6) t0 (fun x L => X x (L 6) (L 7) (L 8) (L 11)) Q 9 := by
  intro x L o a w ho hL hd hI
  have d0 : L 0 = true := dep_spec ho hd (k := 0) (by kernel_rfl)
  have f176 : a.tmps[176]? = some (.pointer (some ⟨p, 0, none⟩)) := hI.at 0 rfl d0
  have h : R_tik19[9]? = some R_tik19[9] := rfl
  conv at h => rhs; arg 1; whnf
  simp only [wpOp, h]
  rw [if_pos (by rfl)]
  left
  go_simp
  exact ⟨x, hI.put (tik19_nodup p vt tn ct now wt pn px np nq bz en0 en1 en2 en3 en4 en5 en6 _) 9 ho hd _ _ _ rfl (.inr (rfl)) (by intro e he; cases he; exact hz ▸ (by decide : (185 : Nat) < 201)) hI.wd⟩
theorem tik19_10 (t0 : Array Value) (hz : t0.size = 201) (Q : Exit → Act → World → Prop) : RStepX Tryz.prog R_tik19 (lay_tik19 p vt tn ct now wt pn px np nq bz en0 en1 en2 en3 en4 en5 en6) t0 (fun x L => X x (L 6) (L 7) (L 8) (L 11)) Q 10 := by
  intro x L o a w ho hL hd hI
  have d9 : L 9 = true := dep_spec ho hd (k := 9) (by kernel_rfl)
  have f185 : a.tmps[185]? = some (.pointer (some ⟨p, 0, none⟩)) := hI.at 9 rfl d9
  have h : R_tik19[10]? = some R_tik19[10] := rfl
  conv at h => rhs; arg 1; whnf
  simp only [wpOp, h]
  rw [if_pos (by rfl)]
  left
  go_simp
  exact ⟨x, hI.put (tik19_nodup p vt tn ct now wt pn px np nq bz en0 en1 en2 en3 en4 en5 en6 _) 10 ho hd _ _ _ rfl (.inr (rfl)) (by intro e he; cases he; exact hz ▸ (by decide : (186 : Nat) < 201)) hI.wd⟩
theorem tik19_11 (S11 : ∀ (x : ((Option Addr × Nat) × Nat × (Option Addr × Nat))) (w : World), X x true true true false w → ∃ u0, w.cell? ⟨p, 33, none⟩ = some u0 ∧ w.frozen? ⟨p, 33, none⟩ = false ∧ X x true true true true (w.setCell ⟨p, 33, none⟩ (.slice (x.2.2.1) (tn + 1) (x.2.2.2)))) (t0 : Array Value) (hz : t0.size = 201) (Q : Exit → Act → World → Prop) : RStepX Tryz.prog R_tik19 (lay_tik19 p vt tn ct now wt pn px np nq bz en0 en1 en2 en3 en4 en5 en6) t0 (fun x L => X x (L 6) (L 7) (L 8) (L 11)) Q 11 := by
  intro x L o a w ho hL hd hI
  have _ := hz
  have d10 : L 10 = true := dep_spec ho hd (k := 10) (by kernel_rfl)
  have f186 : a.tmps[186]? = some (.pointer (some ⟨p, 33, none⟩)) := hI.at 10 rfl d10
  have d8 : L 8 = true := dep_spec ho hd (k := 8) (by kernel_rfl)
  have f184 : a.tmps[184]? = some (.slice (x.2.2.1) (tn + 1) (x.2.2.2)) := hI.at 8 rfl d8
  have y6 : L 6 = true := dep_spec ho hd (k := 6) (by kernel_rfl)
  have z6 : L 6 = true := y6
  have y7 : L 7 = true := dep_spec ho hd (k := 7) (by kernel_rfl)
  have z7 : L 7 = true := y7
  have y8 : L 8 = true := dep_spec ho hd (k := 8) (by kernel_rfl)
  have z8 : L 8 = true := y8
  have z11 : L 11 = false := hL
  have hw : X x (L 6) (L 7) (L 8) (L 11) w := hI.wd
  rw [z6, z7, z8, z11] at hw
  obtain ⟨u0, c0, g0, hx⟩ := S11 x  w hw
  have h : R_tik19[11]? = some R_tik19[11] := rfl
  conv at h => rhs; arg 1; whnf
  simp only [wpOp, h]
  rw [if_pos (by rfl)]
  left
  go_simp
  have hx2 : X x (L 6) (L 7) (L 8) true (w.setCell ⟨p, 33, none⟩ (.slice (x.2.2.1) (tn + 1) (x.2.2.2))) := by
    rw [z6, z7, z8]
    exact hx
  exact ⟨x, ((hI.rewd (Wd' := fun _ _ => True) (w' := w) trivial).put (w' := w) (tik19_nodup p vt tn ct now wt pn px np nq bz en0 en1 en2 en3 en4 en5 en6 _) 11 ho hd none undef undef rfl (.inl rfl) (by intro e he; cases he) trivial).rewd hx2⟩
theorem tik19_step (M4 : ∀ (x : ((Option Addr × Nat) × Nat × (Option Addr × Nat))) (b0 : Bool) (b1 : Bool) (w : World), X x b0 b1 false false w → w.cell? ⟨p, 33, none⟩ = some (.slice (vt) (tn) (ct))) (C6 : ∀ (x : ((Option Addr × Nat) × Nat × (Option Addr × Nat))) (w : World), X x false false false false w → Calls Tryz.prog 13 #[.pointer (some ⟨p, 0, none⟩)] w fun e w' => ∃ y : (Option Addr × Nat), e = .returned (.agg #[.int .i64 now, .int .i64 wt, .bool pn, .bool px, .slice (y.1) (np) (y.2), .int .i64 nq, .int .i64 bz, .int .i64 en0, .int .i64 en1, .int .i64 en2, .int .i64 en3, .int .i64 en4, .int .i64 en5, .int .i64 en6, .bool false]) ∧ X (y, x.2.1, x.2.2) true false false false w') (B7 : ∀ (x : ((Option Addr × Nat) × Nat × (Option Addr × Nat))) (w : World), X x true false false false w → X (x.1, w.heap.size, x.2.2) true true false false (w.alloc (.cells #[.int .i64 now, .int .i64 wt, .bool pn, .bool px, .slice (x.1.1) (np) (x.1.2), .int .i64 nq, .int .i64 bz, .int .i64 en0, .int .i64 en1, .int .i64 en2, .int .i64 en3, .int .i64 en4, .int .i64 en5, .int .i64 en6, .bool false] 38))) (B8 : ∀ (x : ((Option Addr × Nat) × Nat × (Option Addr × Nat))) (w : World), X x true true false false w → ∃ (S : Nat → Prop) (xs : List Value), Own w S 38 15 (.slice (vt) (tn) (ct)) (tn) xs ∧ (∀ j u, ([.int .i64 now, .int .i64 wt, .bool pn, .bool px, .slice (x.1.1) (np) (x.1.2), .int .i64 nq, .int .i64 bz, .int .i64 en0, .int .i64 en1, .int .i64 en2, .int .i64 en3, .int .i64 en4, .int .i64 en5, .int .i64 en6, .bool false] : List Value)[j]? = some u → w.cell? ((⟨x.2.1, 0, none⟩ : Addr).add j) = some u) ∧ (tn) + 1 ≤ maxLen ∧ ((tn) + 1) * 128 ≤ 140737488355328 ∧ ∀ g' o' c' w', Own w' (nx S w w') 38 15 (.slice (some ⟨g', o', none⟩) ((tn) + 1) c') ((tn) + 1) (xs ++ [.int .i64 now, .int .i64 wt, .bool pn, .bool px, .slice (x.1.1) (np) (x.1.2), .int .i64 nq, .int .i64 bz, .int .i64 en0, .int .i64 en1, .int .i64 en2, .int .i64 en3, .int .i64 en4, .int .i64 en5, .int .i64 en6, .bool false]) → Chg S w w' → X (x.1, x.2.1, (some ⟨g', o', none⟩, c')) true true true false w') (S11 : ∀ (x : ((Option Addr × Nat) × Nat × (Option Addr × Nat))) (w : World), X x true true true false w → ∃ u0, w.cell? ⟨p, 33, none⟩ = some u0 ∧ w.frozen? ⟨p, 33, none⟩ = false ∧ X x true true true true (w.setCell ⟨p, 33, none⟩ (.slice (x.2.2.1) (tn + 1) (x.2.2.2)))) (t0 : Array Value) (hz : t0.size = 201) (ht0 : t0[0]? = some (.pointer (some ⟨p, 0, none⟩))) (Q : Exit → Act → World → Prop) : ∀ i, i < 12 → RStepX Tryz.prog R_tik19 (lay_tik19 p vt tn ct now wt pn px np nq bz en0 en1 en2 en3 en4 en5 en6) t0 (fun x L => X x (L 6) (L 7) (L 8) (L 11)) Q i
  | 0, _ => tik19_0 p vt tn ct now wt pn px np nq bz en0 en1 en2 en3 en4 en5 en6 X   t0 hz ht0 Q
  | 1, _ => tik19_1 p vt tn ct now wt pn px np nq bz en0 en1 en2 en3 en4 en5 en6 X   t0 hz ht0 Q
  | 2, _ => tik19_2 p vt tn ct now wt pn px np nq bz en0 en1 en2 en3 en4 en5 en6 X   t0 hz  Q
  | 3, _ => tik19_3 p vt tn ct now wt pn px np nq bz en0 en1 en2 en3 en4 en5 en6 X   t0 hz  Q
  | 4, _ => tik19_4 p vt tn ct now wt pn px np nq bz en0 en1 en2 en3 en4 en5 en6 X  M4 t0 hz  Q
  | 5, _ => tik19_5 p vt tn ct now wt pn px np nq bz en0 en1 en2 en3 en4 en5 en6 X   t0 hz ht0 Q
  | 6, _ => tik19_6 p vt tn ct now wt pn px np nq bz en0 en1 en2 en3 en4 en5 en6 X  C6 t0 hz  Q
  | 7, _ => tik19_7 p vt tn ct now wt pn px np nq bz en0 en1 en2 en3 en4 en5 en6 X  B7 t0 hz  Q
  | 8, _ => tik19_8 p vt tn ct now wt pn px np nq bz en0 en1 en2 en3 en4 en5 en6 X  B8 t0 hz  Q
  | 9, _ => tik19_9 p vt tn ct now wt pn px np nq bz en0 en1 en2 en3 en4 en5 en6 X   t0 hz  Q
  | 10, _ => tik19_10 p vt tn ct now wt pn px np nq bz en0 en1 en2 en3 en4 en5 en6 X   t0 hz  Q
  | 11, _ => tik19_11 p vt tn ct now wt pn px np nq bz en0 en1 en2 en3 en4 en5 en6 X  S11 t0 hz  Q
  | k + 12, h => absurd h (by omega)
end
theorem tik19_at {ops : Array Oper} (ho : ops = R_tik19) (p : Nat) (vt : Option Addr) (tn : Nat) (ct : Nat) (now : Int) (wt : Int) (pn : Bool) (px : Bool) (np : Nat) (nq : Nat) (bz : Int) (en0 : Int) (en1 : Int) (en2 : Int) (en3 : Int) (en4 : Int) (en5 : Int) (en6 : Int) (X : ((Option Addr × Nat) × Nat × (Option Addr × Nat)) → Bool → Bool → Bool → Bool → World → Prop)  (M4 : ∀ (x : ((Option Addr × Nat) × Nat × (Option Addr × Nat))) (b0 : Bool) (b1 : Bool) (w : World), X x b0 b1 false false w → w.cell? ⟨p, 33, none⟩ = some (.slice (vt) (tn) (ct))) (C6 : ∀ (x : ((Option Addr × Nat) × Nat × (Option Addr × Nat))) (w : World), X x false false false false w → Calls Tryz.prog 13 #[.pointer (some ⟨p, 0, none⟩)] w fun e w' => ∃ y : (Option Addr × Nat), e = .returned (.agg #[.int .i64 now, .int .i64 wt, .bool pn, .bool px, .slice (y.1) (np) (y.2), .int .i64 nq, .int .i64 bz, .int .i64 en0, .int .i64 en1, .int .i64 en2, .int .i64 en3, .int .i64 en4, .int .i64 en5, .int .i64 en6, .bool false]) ∧ X (y, x.2.1, x.2.2) true false false false w') (B7 : ∀ (x : ((Option Addr × Nat) × Nat × (Option Addr × Nat))) (w : World), X x true false false false w → X (x.1, w.heap.size, x.2.2) true true false false (w.alloc (.cells #[.int .i64 now, .int .i64 wt, .bool pn, .bool px, .slice (x.1.1) (np) (x.1.2), .int .i64 nq, .int .i64 bz, .int .i64 en0, .int .i64 en1, .int .i64 en2, .int .i64 en3, .int .i64 en4, .int .i64 en5, .int .i64 en6, .bool false] 38))) (B8 : ∀ (x : ((Option Addr × Nat) × Nat × (Option Addr × Nat))) (w : World), X x true true false false w → ∃ (S : Nat → Prop) (xs : List Value), Own w S 38 15 (.slice (vt) (tn) (ct)) (tn) xs ∧ (∀ j u, ([.int .i64 now, .int .i64 wt, .bool pn, .bool px, .slice (x.1.1) (np) (x.1.2), .int .i64 nq, .int .i64 bz, .int .i64 en0, .int .i64 en1, .int .i64 en2, .int .i64 en3, .int .i64 en4, .int .i64 en5, .int .i64 en6, .bool false] : List Value)[j]? = some u → w.cell? ((⟨x.2.1, 0, none⟩ : Addr).add j) = some u) ∧ (tn) + 1 ≤ maxLen ∧ ((tn) + 1) * 128 ≤ 140737488355328 ∧ ∀ g' o' c' w', Own w' (nx S w w') 38 15 (.slice (some ⟨g', o', none⟩) ((tn) + 1) c') ((tn) + 1) (xs ++ [.int .i64 now, .int .i64 wt, .bool pn, .bool px, .slice (x.1.1) (np) (x.1.2), .int .i64 nq, .int .i64 bz, .int .i64 en0, .int .i64 en1, .int .i64 en2, .int .i64 en3, .int .i64 en4, .int .i64 en5, .int .i64 en6, .bool false]) → Chg S w w' → X (x.1, x.2.1, (some ⟨g', o', none⟩, c')) true true true false w') (S11 : ∀ (x : ((Option Addr × Nat) × Nat × (Option Addr × Nat))) (w : World), X x true true true false w → ∃ u0, w.cell? ⟨p, 33, none⟩ = some u0 ∧ w.frozen? ⟨p, 33, none⟩ = false ∧ X x true true true true (w.setCell ⟨p, 33, none⟩ (.slice (x.2.2.1) (tn + 1) (x.2.2.2)))) (t0 : Array Value) (hz : t0.size = 201) (ht0 : t0[0]? = some (.pointer (some ⟨p, 0, none⟩))) {id : Nat} {Q : Exit → Act → World → Prop} {w : World} (x0 : ((Option Addr × Nat) × Nat × (Option Addr × Nat))) (start : X x0 false false false false w.drew) (fin : ∀ x w', X x true true true true w' → Q .normal ⟨puts ((lay_tik19 p vt tn ct now wt pn px np nq bz en0 en1 en2 en3 en4 en5 en6) x) t0, []⟩ w') : (Code.region id ops true).wp Tryz.prog Q ⟨t0, []⟩ w := by
  subst ho
  refine wp_regX (Wd := (fun x L => X x (L 6) (L 7) (L 8) (L 11))) 12 rfl tik19_acyc tik19_size (fun _ => rfl) (tik19_nodup p vt tn ct now wt pn px np nq bz en0 en1 en2 en3 en4 en5 en6) (fun x => by rw [tik19_dsts, hz]; rfl) x0 start (fun i hi => tik19_step p vt tn ct now wt pn px np nq bz en0 en1 en2 en3 en4 en5 en6 X  M4 C6 B7 B8 S11 t0 hz ht0 Q i hi) fun x L w' hl hw => fin x w' ?_
  have hw : X x (L 6) (L 7) (L 8) (L 11) w' := hw
  rw [hl 6 (by omega), hl 7 (by omega), hl 8 (by omega), hl 11 (by omega)] at hw
  exact hw
end Go.Proofs.YtdgphoemjeakaaaGreatDoor.Y
