/- The whole service: regions that draw their order. -/
import Derived.Test.YtdgphoemjeakaaaGreatDoorQ11
import Derived.Test.YtdgphoemjeakaaaGreatDoorQ09
/-! The whole service: regions that draw their order. -/
namespace Go.Proofs.YtdgphoemjeakaaaGreatDoor.Y
open Go.RowKit Go.Proofs.YtdgphoemjeakaaaGreatDoor.K Go.Proofs.YtdgphoemjeakaaaGreatDoor.P Go.Proofs.YtdgphoemjeakaaaGreatDoor.W Go.Proofs.YtdgphoemjeakaaaGreatDoor.Rg
set_option maxRecDepth 100000

theorem info48 : (Tryz.prog.info? 48).map (fun i => (i.zero, i.size, i.bytes)) = some (some (.agg #[.int .i64 0, .int .i64 0, .int .i64 0, .int .i64 0]), 4, 32) := by kernel_rfl
noncomputable def R_sent14 : Array Oper := reg Tryz.f51 14
theorem sent14_size : R_sent14.size = 12 := by kernel_rfl
theorem sent14_acyc : acycB R_sent14 = true := by kernel_rfl
/-- What the operations lay. -/
noncomputable def lay_sent14 (p : Nat) (g : Nat) (of : Nat) (n : Nat) (c : Nat) (gi : Nat) (oi : Nat) (ni : Nat) (ci : Nat) (k : Nat) (kk : Nat) (pid : Int) (_ : Unit) : Lay := [(some 60, .pointer (some ⟨p, 0, none⟩)),
  (some 61, .pointer (some ⟨p, 0, none⟩)),
  (some 62, .pointer (some ⟨p, 22, none⟩)),
  (some 63, .slice (some ⟨g, of, none⟩) (n) (c)),
  (some 64, .int .i64 k),
  (some 65, .slice (some ⟨gi, oi, none⟩) (ni) (ci)),
  (some 66, .int .i64 kk),
  (some 67, .pointer (some ⟨gi, oi + kk, none⟩)),
  (some 68, .int .i64 pid),
  (some 69, .pointer (some ⟨g, of + k * 4, none⟩)),
  (some 70, .pointer (some ⟨g, of + k * 4 + 3, none⟩)),
  (none, undef)]
theorem sent14_dsts (p : Nat) (g : Nat) (of : Nat) (n : Nat) (c : Nat) (gi : Nat) (oi : Nat) (ni : Nat) (ci : Nat) (k : Nat) (kk : Nat) (pid : Int) (x : Unit) : dsts (lay_sent14 p g of n c gi oi ni ci k kk pid x) = [60, 61, 62, 63, 64, 65, 66, 67, 68, 69, 70] := rfl
theorem sent14_nodup (p : Nat) (g : Nat) (of : Nat) (n : Nat) (c : Nat) (gi : Nat) (oi : Nat) (ni : Nat) (ci : Nat) (k : Nat) (kk : Nat) (pid : Int) (x : Unit) : (dsts (lay_sent14 p g of n c gi oi ni ci k kk pid x)).Nodup := by rw [sent14_dsts]; decide
section
variable (p : Nat) (g : Nat) (of : Nat) (n : Nat) (c : Nat) (gi : Nat) (oi : Nat) (ni : Nat) (ci : Nat) (k : Nat) (kk : Nat) (pid : Int) (X : (Unit) → Bool → World → Prop)
theorem sent14_0 (hk : k < n) (hkk : kk < ni) (t0 : Array Value) (hz : t0.size = 78) (ht0 : t0[0]? = some (.pointer (some ⟨p, 0, none⟩))) (Q : Exit → Act → World → Prop) : RStepX Tryz.prog R_sent14 (lay_sent14 p g of n c gi oi ni ci k kk pid) t0 (fun x L => X x (L 11)) Q 0 := by
  intro x L o a w ho hL hd hI
  have _ := hkk
  have _ := hk
  have f0 : a.tmps[0]? = some (.pointer (some ⟨p, 0, none⟩)) := hI.from ht0 rfl
  have h : R_sent14[0]? = some R_sent14[0] := rfl
  conv at h => rhs; arg 1; whnf
  simp only [wpOp, h]
  rw [if_pos (by rfl)]
  left
  go_simp
  exact ⟨x, hI.put (sent14_nodup p g of n c gi oi ni ci k kk pid _) 0 ho hd _ _ _ rfl (.inr rfl) (by intro e he; cases he; exact hz ▸ (by decide : (60 : Nat) < 78)) hI.wd⟩
theorem sent14_1 (hk : k < n) (hkk : kk < ni) (t0 : Array Value) (hz : t0.size = 78) (Q : Exit → Act → World → Prop) : RStepX Tryz.prog R_sent14 (lay_sent14 p g of n c gi oi ni ci k kk pid) t0 (fun x L => X x (L 11)) Q 1 := by
  intro x L o a w ho hL hd hI
  have _ := hkk
  have _ := hk
  have d0 : L 0 = true := dep_spec ho hd (k := 0) (by kernel_rfl)
  have f60 : a.tmps[60]? = some (.pointer (some ⟨p, 0, none⟩)) := hI.at 0 rfl d0
  have h : R_sent14[1]? = some R_sent14[1] := rfl
  conv at h => rhs; arg 1; whnf
  simp only [wpOp, h]
  rw [if_pos (by rfl)]
  left
  go_simp
  exact ⟨x, hI.put (sent14_nodup p g of n c gi oi ni ci k kk pid _) 1 ho hd _ _ _ rfl (.inr rfl) (by intro e he; cases he; exact hz ▸ (by decide : (61 : Nat) < 78)) hI.wd⟩
theorem sent14_2 (hk : k < n) (hkk : kk < ni) (t0 : Array Value) (hz : t0.size = 78) (Q : Exit → Act → World → Prop) : RStepX Tryz.prog R_sent14 (lay_sent14 p g of n c gi oi ni ci k kk pid) t0 (fun x L => X x (L 11)) Q 2 := by
  intro x L o a w ho hL hd hI
  have _ := hkk
  have _ := hk
  have d1 : L 1 = true := dep_spec ho hd (k := 1) (by kernel_rfl)
  have f61 : a.tmps[61]? = some (.pointer (some ⟨p, 0, none⟩)) := hI.at 1 rfl d1
  have h : R_sent14[2]? = some R_sent14[2] := rfl
  conv at h => rhs; arg 1; whnf
  simp only [wpOp, h]
  rw [if_pos (by rfl)]
  left
  go_simp
  exact ⟨x, hI.put (sent14_nodup p g of n c gi oi ni ci k kk pid _) 2 ho hd _ _ _ rfl (.inr rfl) (by intro e he; cases he; exact hz ▸ (by decide : (62 : Nat) < 78)) hI.wd⟩
theorem sent14_3 (hk : k < n) (hkk : kk < ni) (M3 : ∀ (x : (Unit)) (w : World), X x false w → w.cell? ⟨p, 22, none⟩ = some (.slice (some ⟨g, of, none⟩) (n) (c))) (t0 : Array Value) (hz : t0.size = 78) (Q : Exit → Act → World → Prop) : RStepX Tryz.prog R_sent14 (lay_sent14 p g of n c gi oi ni ci k kk pid) t0 (fun x L => X x (L 11)) Q 3 := by
  intro x L o a w ho hL hd hI
  have _ := hkk
  have _ := hk
  have d2 : L 2 = true := dep_spec ho hd (k := 2) (by kernel_rfl)
  have f62 : a.tmps[62]? = some (.pointer (some ⟨p, 22, none⟩)) := hI.at 2 rfl d2
  have z11 : L 11 = false := by
    cases q11 : L 11 with
    | false => rfl
    | true =>
      have q3 : L 3 = true := hI.tr q11 (by kernel_rfl)
      rw [hL] at q3; cases q3
  have hw : X x (L 11) w := hI.wd
  rw [z11] at hw
  have hv := M3 x  w hw
  have h : R_sent14[3]? = some R_sent14[3] := rfl
  conv at h => rhs; arg 1; whnf
  simp only [wpOp, h]
  rw [if_pos (by rfl)]
  left
  go_simp
  exact ⟨x, hI.put (sent14_nodup p g of n c gi oi ni ci k kk pid _) 3 ho hd _ _ _ rfl (.inr rfl) (by intro e he; cases he; exact hz ▸ (by decide : (63 : Nat) < 78)) hI.wd⟩
theorem sent14_4 (hk : k < n) (hkk : kk < ni) (t0 : Array Value) (hz : t0.size = 78) (ht7 : t0[7]? = some (.int .i64 k)) (Q : Exit → Act → World → Prop) : RStepX Tryz.prog R_sent14 (lay_sent14 p g of n c gi oi ni ci k kk pid) t0 (fun x L => X x (L 11)) Q 4 := by
  intro x L o a w ho hL hd hI
  have _ := hkk
  have _ := hk
  have f7 : a.tmps[7]? = some (.int .i64 k) := hI.from ht7 rfl
  have h : R_sent14[4]? = some R_sent14[4] := rfl
  conv at h => rhs; arg 1; whnf
  simp only [wpOp, h]
  rw [if_pos (by rfl)]
  left
  go_simp
  exact ⟨x, hI.put (sent14_nodup p g of n c gi oi ni ci k kk pid _) 4 ho hd _ _ _ rfl (.inr rfl) (by intro e he; cases he; exact hz ▸ (by decide : (64 : Nat) < 78)) hI.wd⟩
theorem sent14_5 (hk : k < n) (hkk : kk < ni) (t0 : Array Value) (hz : t0.size = 78) (ht2 : t0[2]? = some (.slice (some ⟨gi, oi, none⟩) (ni) (ci))) (Q : Exit → Act → World → Prop) : RStepX Tryz.prog R_sent14 (lay_sent14 p g of n c gi oi ni ci k kk pid) t0 (fun x L => X x (L 11)) Q 5 := by
  intro x L o a w ho hL hd hI
  have _ := hkk
  have _ := hk
  have f2 : a.tmps[2]? = some (.slice (some ⟨gi, oi, none⟩) (ni) (ci)) := hI.from ht2 rfl
  have h : R_sent14[5]? = some R_sent14[5] := rfl
  conv at h => rhs; arg 1; whnf
  simp only [wpOp, h]
  rw [if_pos (by rfl)]
  left
  go_simp
  exact ⟨x, hI.put (sent14_nodup p g of n c gi oi ni ci k kk pid _) 5 ho hd _ _ _ rfl (.inr rfl) (by intro e he; cases he; exact hz ▸ (by decide : (65 : Nat) < 78)) hI.wd⟩
theorem sent14_6 (hk : k < n) (hkk : kk < ni) (t0 : Array Value) (hz : t0.size = 78) (ht6 : t0[6]? = some (.int .i64 kk)) (Q : Exit → Act → World → Prop) : RStepX Tryz.prog R_sent14 (lay_sent14 p g of n c gi oi ni ci k kk pid) t0 (fun x L => X x (L 11)) Q 6 := by
  intro x L o a w ho hL hd hI
  have _ := hkk
  have _ := hk
  have f6 : a.tmps[6]? = some (.int .i64 kk) := hI.from ht6 rfl
  have h : R_sent14[6]? = some R_sent14[6] := rfl
  conv at h => rhs; arg 1; whnf
  simp only [wpOp, h]
  rw [if_pos (by rfl)]
  left
  go_simp
  exact ⟨x, hI.put (sent14_nodup p g of n c gi oi ni ci k kk pid _) 6 ho hd _ _ _ rfl (.inr rfl) (by intro e he; cases he; exact hz ▸ (by decide : (66 : Nat) < 78)) hI.wd⟩
theorem sent14_7 (hk : k < n) (hkk : kk < ni) (t0 : Array Value) (hz : t0.size = 78) (Q : Exit → Act → World → Prop) : RStepX Tryz.prog R_sent14 (lay_sent14 p g of n c gi oi ni ci k kk pid) t0 (fun x L => X x (L 11)) Q 7 := by
  intro x L o a w ho hL hd hI
  have _ := hkk
  have _ := hk
  have d5 : L 5 = true := dep_spec ho hd (k := 5) (by kernel_rfl)
  have f65 : a.tmps[65]? = some (.slice (some ⟨gi, oi, none⟩) (ni) (ci)) := hI.at 5 rfl d5
  have d6 : L 6 = true := dep_spec ho hd (k := 6) (by kernel_rfl)
  have f66 : a.tmps[66]? = some (.int .i64 kk) := hI.at 6 rfl d6
  have h : R_sent14[7]? = some R_sent14[7] := rfl
  conv at h => rhs; arg 1; whnf
  simp only [wpOp, h]
  rw [if_pos (by rfl)]
  left
  go_simp
  exact ⟨x, hI.put (sent14_nodup p g of n c gi oi ni ci k kk pid _) 7 ho hd _ _ _ rfl (.inr rfl) (by intro e he; cases he; exact hz ▸ (by decide : (67 : Nat) < 78)) hI.wd⟩
theorem sent14_8 (hk : k < n) (hkk : kk < ni) (M8 : ∀ (x : (Unit)) (w : World), X x false w → w.cell? ⟨gi, oi + kk, none⟩ = some (.int .i64 pid)) (t0 : Array Value) (hz : t0.size = 78) (Q : Exit → Act → World → Prop) : RStepX Tryz.prog R_sent14 (lay_sent14 p g of n c gi oi ni ci k kk pid) t0 (fun x L => X x (L 11)) Q 8 := by
  intro x L o a w ho hL hd hI
  have _ := hkk
  have _ := hk
  have d7 : L 7 = true := dep_spec ho hd (k := 7) (by kernel_rfl)
  have f67 : a.tmps[67]? = some (.pointer (some ⟨gi, oi + kk, none⟩)) := hI.at 7 rfl d7
  have z11 : L 11 = false := by
    cases q11 : L 11 with
    | false => rfl
    | true =>
      have q8 : L 8 = true := hI.tr q11 (by kernel_rfl)
      rw [hL] at q8; cases q8
  have hw : X x (L 11) w := hI.wd
  rw [z11] at hw
  have hv := M8 x  w hw
  have h : R_sent14[8]? = some R_sent14[8] := rfl
  conv at h => rhs; arg 1; whnf
  simp only [wpOp, h]
  rw [if_pos (by rfl)]
  left
  go_simp
  exact ⟨x, hI.put (sent14_nodup p g of n c gi oi ni ci k kk pid _) 8 ho hd _ _ _ rfl (.inr rfl) (by intro e he; cases he; exact hz ▸ (by decide : (68 : Nat) < 78)) hI.wd⟩
theorem sent14_9 (hk : k < n) (hkk : kk < ni) (t0 : Array Value) (hz : t0.size = 78) (Q : Exit → Act → World → Prop) : RStepX Tryz.prog R_sent14 (lay_sent14 p g of n c gi oi ni ci k kk pid) t0 (fun x L => X x (L 11)) Q 9 := by
  intro x L o a w ho hL hd hI
  have _ := hkk
  have _ := hk
  have d3 : L 3 = true := dep_spec ho hd (k := 3) (by kernel_rfl)
  have f63 : a.tmps[63]? = some (.slice (some ⟨g, of, none⟩) (n) (c)) := hI.at 3 rfl d3
  have d4 : L 4 = true := dep_spec ho hd (k := 4) (by kernel_rfl)
  have f64 : a.tmps[64]? = some (.int .i64 k) := hI.at 4 rfl d4
  have h : R_sent14[9]? = some R_sent14[9] := rfl
  conv at h => rhs; arg 1; whnf
  simp only [wpOp, h]
  rw [if_pos (by rfl)]
  left
  go_simp
  exact ⟨x, hI.put (sent14_nodup p g of n c gi oi ni ci k kk pid _) 9 ho hd _ _ _ rfl (.inr rfl) (by intro e he; cases he; exact hz ▸ (by decide : (69 : Nat) < 78)) hI.wd⟩
theorem sent14_10 (hk : k < n) (hkk : kk < ni) (t0 : Array Value) (hz : t0.size = 78) (Q : Exit → Act → World → Prop) : RStepX Tryz.prog R_sent14 (lay_sent14 p g of n c gi oi ni ci k kk pid) t0 (fun x L => X x (L 11)) Q 10 := by
  intro x L o a w ho hL hd hI
  have _ := hkk
  have _ := hk
  have d9 : L 9 = true := dep_spec ho hd (k := 9) (by kernel_rfl)
  have f69 : a.tmps[69]? = some (.pointer (some ⟨g, of + k * 4, none⟩)) := hI.at 9 rfl d9
  have h : R_sent14[10]? = some R_sent14[10] := rfl
  conv at h => rhs; arg 1; whnf
  simp only [wpOp, h]
  rw [if_pos (by rfl)]
  left
  go_simp
  exact ⟨x, hI.put (sent14_nodup p g of n c gi oi ni ci k kk pid _) 10 ho hd _ _ _ rfl (.inr rfl) (by intro e he; cases he; exact hz ▸ (by decide : (70 : Nat) < 78)) hI.wd⟩
theorem sent14_11 (hk : k < n) (hkk : kk < ni) (S11 : ∀ (x : (Unit)) (w : World), X x false w → ∃ u0, w.cell? ⟨g, of + k * 4 + 3, none⟩ = some u0 ∧ w.frozen? ⟨g, of + k * 4 + 3, none⟩ = false ∧ X x true (w.setCell ⟨g, of + k * 4 + 3, none⟩ (.int .i64 pid))) (t0 : Array Value) (hz : t0.size = 78) (Q : Exit → Act → World → Prop) : RStepX Tryz.prog R_sent14 (lay_sent14 p g of n c gi oi ni ci k kk pid) t0 (fun x L => X x (L 11)) Q 11 := by
  intro x L o a w ho hL hd hI
  have _ := hkk
  have _ := hk
  have _ := hz
  have d10 : L 10 = true := dep_spec ho hd (k := 10) (by kernel_rfl)
  have f70 : a.tmps[70]? = some (.pointer (some ⟨g, of + k * 4 + 3, none⟩)) := hI.at 10 rfl d10
  have d8 : L 8 = true := dep_spec ho hd (k := 8) (by kernel_rfl)
  have f68 : a.tmps[68]? = some (.int .i64 pid) := hI.at 8 rfl d8
  have z11 : L 11 = false := hL
  have hw : X x (L 11) w := hI.wd
  rw [z11] at hw
  obtain ⟨u0, c0, g0, hx⟩ := S11 x  w hw
  have h : R_sent14[11]? = some R_sent14[11] := rfl
  conv at h => rhs; arg 1; whnf
  simp only [wpOp, h]
  rw [if_pos (by rfl)]
  left
  go_simp
  have hx2 : X x true (w.setCell ⟨g, of + k * 4 + 3, none⟩ (.int .i64 pid)) := by
    exact hx
  exact ⟨x, ((hI.rewd (Wd' := fun _ _ => True) (w' := w) trivial).put (w' := w) (sent14_nodup p g of n c gi oi ni ci k kk pid _) 11 ho hd none undef undef rfl (.inl rfl) (by intro e he; cases he) trivial).rewd hx2⟩
theorem sent14_step (hk : k < n) (hkk : kk < ni) (M3 : ∀ (x : (Unit)) (w : World), X x false w → w.cell? ⟨p, 22, none⟩ = some (.slice (some ⟨g, of, none⟩) (n) (c))) (M8 : ∀ (x : (Unit)) (w : World), X x false w → w.cell? ⟨gi, oi + kk, none⟩ = some (.int .i64 pid)) (S11 : ∀ (x : (Unit)) (w : World), X x false w → ∃ u0, w.cell? ⟨g, of + k * 4 + 3, none⟩ = some u0 ∧ w.frozen? ⟨g, of + k * 4 + 3, none⟩ = false ∧ X x true (w.setCell ⟨g, of + k * 4 + 3, none⟩ (.int .i64 pid))) (t0 : Array Value) (hz : t0.size = 78) (ht0 : t0[0]? = some (.pointer (some ⟨p, 0, none⟩))) (ht2 : t0[2]? = some (.slice (some ⟨gi, oi, none⟩) (ni) (ci))) (ht6 : t0[6]? = some (.int .i64 kk)) (ht7 : t0[7]? = some (.int .i64 k)) (Q : Exit → Act → World → Prop) : ∀ i, i < 12 → RStepX Tryz.prog R_sent14 (lay_sent14 p g of n c gi oi ni ci k kk pid) t0 (fun x L => X x (L 11)) Q i
  | 0, _ => sent14_0 p g of n c gi oi ni ci k kk pid X hk hkk  t0 hz ht0 Q
  | 1, _ => sent14_1 p g of n c gi oi ni ci k kk pid X hk hkk  t0 hz  Q
  | 2, _ => sent14_2 p g of n c gi oi ni ci k kk pid X hk hkk  t0 hz  Q
  | 3, _ => sent14_3 p g of n c gi oi ni ci k kk pid X hk hkk M3 t0 hz  Q
  | 4, _ => sent14_4 p g of n c gi oi ni ci k kk pid X hk hkk  t0 hz ht7 Q
  | 5, _ => sent14_5 p g of n c gi oi ni ci k kk pid X hk hkk  t0 hz ht2 Q
  | 6, _ => sent14_6 p g of n c gi oi ni ci k kk pid X hk hkk  t0 hz ht6 Q
  | 7, _ => sent14_7 p g of n c gi oi ni ci k kk pid X hk hkk  t0 hz  Q
  | 8, _ => sent14_8 p g of n c gi oi ni ci k kk pid X hk hkk M8 t0 hz  Q
  | 9, _ => sent14_9 p g of n c gi oi ni ci k kk pid X hk hkk  t0 hz  Q
  | 10, _ => sent14_10 p g of n c gi oi ni ci k kk pid X hk hkk  t0 hz  Q
  | 11, _ => sent14_11 p g of n c gi oi ni ci k kk pid X hk hkk S11 t0 hz  Q
  | k + 12, h => absurd h (by omega)
end
theorem sent14_at {ops : Array Oper} (ho : ops = R_sent14) (p : Nat) (g : Nat) (of : Nat) (n : Nat) (c : Nat) (gi : Nat) (oi : Nat) (ni : Nat) (ci : Nat) (k : Nat) (kk : Nat) (pid : Int) (X : (Unit) → Bool → World → Prop) (hk : k < n) (hkk : kk < ni) (M3 : ∀ (x : (Unit)) (w : World), X x false w → w.cell? ⟨p, 22, none⟩ = some (.slice (some ⟨g, of, none⟩) (n) (c))) (M8 : ∀ (x : (Unit)) (w : World), X x false w → w.cell? ⟨gi, oi + kk, none⟩ = some (.int .i64 pid)) (S11 : ∀ (x : (Unit)) (w : World), X x false w → ∃ u0, w.cell? ⟨g, of + k * 4 + 3, none⟩ = some u0 ∧ w.frozen? ⟨g, of + k * 4 + 3, none⟩ = false ∧ X x true (w.setCell ⟨g, of + k * 4 + 3, none⟩ (.int .i64 pid))) (t0 : Array Value) (hz : t0.size = 78) (ht0 : t0[0]? = some (.pointer (some ⟨p, 0, none⟩))) (ht2 : t0[2]? = some (.slice (some ⟨gi, oi, none⟩) (ni) (ci))) (ht6 : t0[6]? = some (.int .i64 kk)) (ht7 : t0[7]? = some (.int .i64 k)) {id : Nat} {Q : Exit → Act → World → Prop} {w : World} (x0 : (Unit)) (start : X x0 false w.drew) (fin : ∀ x w', X x true w' → Q .normal ⟨puts ((lay_sent14 p g of n c gi oi ni ci k kk pid) x) t0, []⟩ w') : (Code.region id ops true).wp Tryz.prog Q ⟨t0, []⟩ w := by
  subst ho
  refine wp_regX (Wd := (fun x L => X x (L 11))) 12 rfl sent14_acyc sent14_size (fun _ => rfl) (sent14_nodup p g of n c gi oi ni ci k kk pid) (fun x => by rw [sent14_dsts, hz]; rfl) x0 start (fun i hi => sent14_step p g of n c gi oi ni ci k kk pid X hk hkk M3 M8 S11 t0 hz ht0 ht2 ht6 ht7 Q i hi) fun x L w' hl hw => fin x w' ?_
  have hw : X x (L 11) w' := hw
  rw [hl 11 (by omega)] at hw
  exact hw
noncomputable def R_sent15 : Array Oper := reg Tryz.f51 15
theorem sent15_size : R_sent15.size = 7 := by kernel_rfl
theorem sent15_acyc : acycB R_sent15 = true := by kernel_rfl
/-- What the operations lay. -/
noncomputable def lay_sent15 (p : Nat) (l : Nat) (gi : Nat) (oi : Nat) (ni : Nat) (ci : Nat) (kk : Nat) (pid : Int) (cd : Int) (_ : Unit) : Lay := [(some 71, .pointer (some ⟨p, 0, none⟩)),
  (some 72, .pointer (some ⟨l, 0, none⟩)),
  (some 73, .slice (some ⟨gi, oi, none⟩) (ni) (ci)),
  (some 74, .int .i64 kk),
  (some 75, .pointer (some ⟨gi, oi + kk, none⟩)),
  (some 76, .int .i64 pid),
  (some 77, .int .i64 cd)]
theorem sent15_dsts (p : Nat) (l : Nat) (gi : Nat) (oi : Nat) (ni : Nat) (ci : Nat) (kk : Nat) (pid : Int) (cd : Int) (x : Unit) : dsts (lay_sent15 p l gi oi ni ci kk pid cd x) = [71, 72, 73, 74, 75, 76, 77] := rfl
theorem sent15_nodup (p : Nat) (l : Nat) (gi : Nat) (oi : Nat) (ni : Nat) (ci : Nat) (kk : Nat) (pid : Int) (cd : Int) (x : Unit) : (dsts (lay_sent15 p l gi oi ni ci kk pid cd x)).Nodup := by rw [sent15_dsts]; decide
section
variable (p : Nat) (l : Nat) (gi : Nat) (oi : Nat) (ni : Nat) (ci : Nat) (kk : Nat) (pid : Int) (cd : Int) (X : (Unit) → Bool → World → Prop)
theorem sent15_0 (hkk : kk < ni) (t0 : Array Value) (hz : t0.size = 78) (ht0 : t0[0]? = some (.pointer (some ⟨p, 0, none⟩))) (Q : Exit → Act → World → Prop) : RStepX Tryz.prog R_sent15 (lay_sent15 p l gi oi ni ci kk pid cd) t0 (fun x L => X x (L 6)) Q 0 := by
  intro x L o a w ho hL hd hI
  have _ := hkk
  have f0 : a.tmps[0]? = some (.pointer (some ⟨p, 0, none⟩)) := hI.from ht0 rfl
  have h : R_sent15[0]? = some R_sent15[0] := rfl
  conv at h => rhs; arg 1; whnf
  simp only [wpOp, h]
  rw [if_pos (by rfl)]
  left
  go_simp
  exact ⟨x, hI.put (sent15_nodup p l gi oi ni ci kk pid cd _) 0 ho hd _ _ _ rfl (.inr rfl) (by intro e he; cases he; exact hz ▸ (by decide : (71 : Nat) < 78)) hI.wd⟩
theorem sent15_1 (hkk : kk < ni) (C1 : ∀ (x : (Unit)) (w : World), X x false w → Calls Tryz.prog 21 #[.pointer (some ⟨p, 0, none⟩)] w fun e w' => e = .returned (.pointer (some ⟨l, 0, none⟩)) ∧ X x false w') (t0 : Array Value) (hz : t0.size = 78) (Q : Exit → Act → World → Prop) : RStepX Tryz.prog R_sent15 (lay_sent15 p l gi oi ni ci kk pid cd) t0 (fun x L => X x (L 6)) Q 1 := by
  intro x L o a w ho hL hd hI
  have _ := hkk
  have d0 : L 0 = true := dep_spec ho hd (k := 0) (by kernel_rfl)
  have f71 : a.tmps[71]? = some (.pointer (some ⟨p, 0, none⟩)) := hI.at 0 rfl d0
  have z6 : L 6 = false := by
    cases q6 : L 6 with
    | false => rfl
    | true =>
      have q1 : L 1 = true := hI.tr q6 (by kernel_rfl)
      rw [hL] at q1; cases q1
  have hw : X x (L 6) w := hI.wd
  rw [z6] at hw
  have h : R_sent15[1]? = some R_sent15[1] := rfl
  conv at h => rhs; arg 1; whnf
  simp only [wpOp, h]
  rw [if_pos (by rfl)]
  left
  go_simp
  refine (C1 x  w hw).mono ?_
  rintro e w' ⟨rfl, hx⟩
  have hx2 : X x (L 6) w' := by
    rw [z6]
    exact hx
  exact ⟨x, ((hI.rewd (Wd' := fun _ _ => True) (w' := w) trivial).put (w' := w) (sent15_nodup p l gi oi ni ci kk pid cd _) 1 ho hd _ _ _ rfl (.inr rfl) (by intro e he; cases he; exact hz ▸ (by decide : (72 : Nat) < 78)) trivial).rewd hx2⟩
theorem sent15_2 (hkk : kk < ni) (t0 : Array Value) (hz : t0.size = 78) (ht2 : t0[2]? = some (.slice (some ⟨gi, oi, none⟩) (ni) (ci))) (Q : Exit → Act → World → Prop) : RStepX Tryz.prog R_sent15 (lay_sent15 p l gi oi ni ci kk pid cd) t0 (fun x L => X x (L 6)) Q 2 := by
  intro x L o a w ho hL hd hI
  have _ := hkk
  have f2 : a.tmps[2]? = some (.slice (some ⟨gi, oi, none⟩) (ni) (ci)) := hI.from ht2 rfl
  have h : R_sent15[2]? = some R_sent15[2] := rfl
  conv at h => rhs; arg 1; whnf
  simp only [wpOp, h]
  rw [if_pos (by rfl)]
  left
  go_simp
  exact ⟨x, hI.put (sent15_nodup p l gi oi ni ci kk pid cd _) 2 ho hd _ _ _ rfl (.inr rfl) (by intro e he; cases he; exact hz ▸ (by decide : (73 : Nat) < 78)) hI.wd⟩
theorem sent15_3 (hkk : kk < ni) (t0 : Array Value) (hz : t0.size = 78) (ht6 : t0[6]? = some (.int .i64 kk)) (Q : Exit → Act → World → Prop) : RStepX Tryz.prog R_sent15 (lay_sent15 p l gi oi ni ci kk pid cd) t0 (fun x L => X x (L 6)) Q 3 := by
  intro x L o a w ho hL hd hI
  have _ := hkk
  have f6 : a.tmps[6]? = some (.int .i64 kk) := hI.from ht6 rfl
  have h : R_sent15[3]? = some R_sent15[3] := rfl
  conv at h => rhs; arg 1; whnf
  simp only [wpOp, h]
  rw [if_pos (by rfl)]
  left
  go_simp
  exact ⟨x, hI.put (sent15_nodup p l gi oi ni ci kk pid cd _) 3 ho hd _ _ _ rfl (.inr rfl) (by intro e he; cases he; exact hz ▸ (by decide : (74 : Nat) < 78)) hI.wd⟩
theorem sent15_4 (hkk : kk < ni) (t0 : Array Value) (hz : t0.size = 78) (Q : Exit → Act → World → Prop) : RStepX Tryz.prog R_sent15 (lay_sent15 p l gi oi ni ci kk pid cd) t0 (fun x L => X x (L 6)) Q 4 := by
  intro x L o a w ho hL hd hI
  have _ := hkk
  have d2 : L 2 = true := dep_spec ho hd (k := 2) (by kernel_rfl)
  have f73 : a.tmps[73]? = some (.slice (some ⟨gi, oi, none⟩) (ni) (ci)) := hI.at 2 rfl d2
  have d3 : L 3 = true := dep_spec ho hd (k := 3) (by kernel_rfl)
  have f74 : a.tmps[74]? = some (.int .i64 kk) := hI.at 3 rfl d3
  have h : R_sent15[4]? = some R_sent15[4] := rfl
  conv at h => rhs; arg 1; whnf
  simp only [wpOp, h]
  rw [if_pos (by rfl)]
  left
  go_simp
  exact ⟨x, hI.put (sent15_nodup p l gi oi ni ci kk pid cd _) 4 ho hd _ _ _ rfl (.inr rfl) (by intro e he; cases he; exact hz ▸ (by decide : (75 : Nat) < 78)) hI.wd⟩
theorem sent15_5 (hkk : kk < ni) (M5 : ∀ (x : (Unit)) (w : World), X x false w → w.cell? ⟨gi, oi + kk, none⟩ = some (.int .i64 pid)) (t0 : Array Value) (hz : t0.size = 78) (Q : Exit → Act → World → Prop) : RStepX Tryz.prog R_sent15 (lay_sent15 p l gi oi ni ci kk pid cd) t0 (fun x L => X x (L 6)) Q 5 := by
  intro x L o a w ho hL hd hI
  have _ := hkk
  have d4 : L 4 = true := dep_spec ho hd (k := 4) (by kernel_rfl)
  have f75 : a.tmps[75]? = some (.pointer (some ⟨gi, oi + kk, none⟩)) := hI.at 4 rfl d4
  have z6 : L 6 = false := by
    cases q6 : L 6 with
    | false => rfl
    | true =>
      have q5 : L 5 = true := hI.tr q6 (by kernel_rfl)
      rw [hL] at q5; cases q5
  have hw : X x (L 6) w := hI.wd
  rw [z6] at hw
  have hv := M5 x  w hw
  have h : R_sent15[5]? = some R_sent15[5] := rfl
  conv at h => rhs; arg 1; whnf
  simp only [wpOp, h]
  rw [if_pos (by rfl)]
  left
  go_simp
  exact ⟨x, hI.put (sent15_nodup p l gi oi ni ci kk pid cd _) 5 ho hd _ _ _ rfl (.inr rfl) (by intro e he; cases he; exact hz ▸ (by decide : (76 : Nat) < 78)) hI.wd⟩
theorem sent15_6 (hkk : kk < ni) (C6 : ∀ (x : (Unit)) (w : World), X x false w → Calls Tryz.prog 80 #[.pointer (some ⟨l, 0, none⟩), .int .i64 pid] w fun e w' => e = .returned (.int .i64 cd) ∧ X x true w') (t0 : Array Value) (hz : t0.size = 78) (Q : Exit → Act → World → Prop) : RStepX Tryz.prog R_sent15 (lay_sent15 p l gi oi ni ci kk pid cd) t0 (fun x L => X x (L 6)) Q 6 := by
  intro x L o a w ho hL hd hI
  have _ := hkk
  have d1 : L 1 = true := dep_spec ho hd (k := 1) (by kernel_rfl)
  have f72 : a.tmps[72]? = some (.pointer (some ⟨l, 0, none⟩)) := hI.at 1 rfl d1
  have d5 : L 5 = true := dep_spec ho hd (k := 5) (by kernel_rfl)
  have f76 : a.tmps[76]? = some (.int .i64 pid) := hI.at 5 rfl d5
  have z6 : L 6 = false := hL
  have hw : X x (L 6) w := hI.wd
  rw [z6] at hw
  have h : R_sent15[6]? = some R_sent15[6] := rfl
  conv at h => rhs; arg 1; whnf
  simp only [wpOp, h]
  rw [if_pos (by rfl)]
  left
  go_simp
  refine (C6 x  w hw).mono ?_
  rintro e w' ⟨rfl, hx⟩
  have hx2 : X x true w' := by
    exact hx
  exact ⟨x, ((hI.rewd (Wd' := fun _ _ => True) (w' := w) trivial).put (w' := w) (sent15_nodup p l gi oi ni ci kk pid cd _) 6 ho hd _ _ _ rfl (.inr rfl) (by intro e he; cases he; exact hz ▸ (by decide : (77 : Nat) < 78)) trivial).rewd hx2⟩
theorem sent15_step (hkk : kk < ni) (M5 : ∀ (x : (Unit)) (w : World), X x false w → w.cell? ⟨gi, oi + kk, none⟩ = some (.int .i64 pid)) (C1 : ∀ (x : (Unit)) (w : World), X x false w → Calls Tryz.prog 21 #[.pointer (some ⟨p, 0, none⟩)] w fun e w' => e = .returned (.pointer (some ⟨l, 0, none⟩)) ∧ X x false w') (C6 : ∀ (x : (Unit)) (w : World), X x false w → Calls Tryz.prog 80 #[.pointer (some ⟨l, 0, none⟩), .int .i64 pid] w fun e w' => e = .returned (.int .i64 cd) ∧ X x true w') (t0 : Array Value) (hz : t0.size = 78) (ht0 : t0[0]? = some (.pointer (some ⟨p, 0, none⟩))) (ht2 : t0[2]? = some (.slice (some ⟨gi, oi, none⟩) (ni) (ci))) (ht6 : t0[6]? = some (.int .i64 kk)) (Q : Exit → Act → World → Prop) : ∀ i, i < 7 → RStepX Tryz.prog R_sent15 (lay_sent15 p l gi oi ni ci kk pid cd) t0 (fun x L => X x (L 6)) Q i
  | 0, _ => sent15_0 p l gi oi ni ci kk pid cd X hkk  t0 hz ht0 Q
  | 1, _ => sent15_1 p l gi oi ni ci kk pid cd X hkk C1 t0 hz  Q
  | 2, _ => sent15_2 p l gi oi ni ci kk pid cd X hkk  t0 hz ht2 Q
  | 3, _ => sent15_3 p l gi oi ni ci kk pid cd X hkk  t0 hz ht6 Q
  | 4, _ => sent15_4 p l gi oi ni ci kk pid cd X hkk  t0 hz  Q
  | 5, _ => sent15_5 p l gi oi ni ci kk pid cd X hkk M5 t0 hz  Q
  | 6, _ => sent15_6 p l gi oi ni ci kk pid cd X hkk C6 t0 hz  Q
  | k + 7, h => absurd h (by omega)
end
theorem sent15_at {ops : Array Oper} (ho : ops = R_sent15) (p : Nat) (l : Nat) (gi : Nat) (oi : Nat) (ni : Nat) (ci : Nat) (kk : Nat) (pid : Int) (cd : Int) (X : (Unit) → Bool → World → Prop) (hkk : kk < ni) (M5 : ∀ (x : (Unit)) (w : World), X x false w → w.cell? ⟨gi, oi + kk, none⟩ = some (.int .i64 pid)) (C1 : ∀ (x : (Unit)) (w : World), X x false w → Calls Tryz.prog 21 #[.pointer (some ⟨p, 0, none⟩)] w fun e w' => e = .returned (.pointer (some ⟨l, 0, none⟩)) ∧ X x false w') (C6 : ∀ (x : (Unit)) (w : World), X x false w → Calls Tryz.prog 80 #[.pointer (some ⟨l, 0, none⟩), .int .i64 pid] w fun e w' => e = .returned (.int .i64 cd) ∧ X x true w') (t0 : Array Value) (hz : t0.size = 78) (ht0 : t0[0]? = some (.pointer (some ⟨p, 0, none⟩))) (ht2 : t0[2]? = some (.slice (some ⟨gi, oi, none⟩) (ni) (ci))) (ht6 : t0[6]? = some (.int .i64 kk)) {id : Nat} {Q : Exit → Act → World → Prop} {w : World} (x0 : (Unit)) (start : X x0 false w.drew) (fin : ∀ x w', X x true w' → Q .normal ⟨puts ((lay_sent15 p l gi oi ni ci kk pid cd) x) t0, []⟩ w') : (Code.region id ops true).wp Tryz.prog Q ⟨t0, []⟩ w := by
  subst ho
  refine wp_regX (Wd := (fun x L => X x (L 6))) 7 rfl sent15_acyc sent15_size (fun _ => rfl) (sent15_nodup p l gi oi ni ci kk pid cd) (fun x => by rw [sent15_dsts, hz]; rfl) x0 start (fun i hi => sent15_step p l gi oi ni ci kk pid cd X hkk M5 C1 C6 t0 hz ht0 ht2 ht6 Q i hi) fun x L w' hl hw => fin x w' ?_
  have hw : X x (L 6) w' := hw
  rw [hl 6 (by omega)] at hw
  exact hw
noncomputable def R_arr1 : Array Oper := reg Tryz.f27 1
theorem arr1_size : R_arr1.size = 19 := by kernel_rfl
theorem arr1_acyc : acycB R_arr1 = true := by kernel_rfl
/-- What the operations lay. -/
noncomputable def lay_arr1 (p : Nat) (va : Option Addr) (n : Nat) (c : Nat) (now : Int) (x : Nat × (Option Addr × Nat)) : Lay := [(some 8, .pointer (some ⟨p, 0, none⟩)),
  (some 9, .pointer (some ⟨p, 0, none⟩)),
  (some 10, .pointer (some ⟨p, 0, none⟩)),
  (some 11, .pointer (some ⟨p, 22, none⟩)),
  (some 12, .slice (va) (n) (c)),
  (some 13, .pointer (some ⟨p, 0, none⟩)),
  (some 14, .pointer (some ⟨p, 0, none⟩)),
  (some 15, .pointer (some ⟨p, 20, none⟩)),
  (some 16, .int .i64 now),
  (some 17, .pointer (some ⟨p, 0, none⟩)),
  (some 18, .pointer (some ⟨p, 0, none⟩)),
  (some 19, .pointer (some ⟨p, 20, none⟩)),
  (some 20, .int .i64 now),
  (some 21, .agg #[.int .i64 now, .int .i64 now, .int .i64 1, .int .i64 (-1)]),
  (some 22, .slice (some ⟨x.1, 0, none⟩) (1) (1)),
  (some 23, .slice (x.2.1) (n + 1) (x.2.2)),
  (some 24, .pointer (some ⟨p, 0, none⟩)),
  (some 25, .pointer (some ⟨p, 22, none⟩)),
  (none, undef)]
theorem arr1_dsts (p : Nat) (va : Option Addr) (n : Nat) (c : Nat) (now : Int) (x : Nat × (Option Addr × Nat)) : dsts (lay_arr1 p va n c now x) = [8, 9, 10, 11, 12, 13, 14, 15, 16, 17, 18, 19, 20, 21, 22, 23, 24, 25] := rfl
theorem arr1_nodup (p : Nat) (va : Option Addr) (n : Nat) (c : Nat) (now : Int) (x : Nat × (Option Addr × Nat)) : (dsts (lay_arr1 p va n c now x)).Nodup := by rw [arr1_dsts]; decide
theorem arr1_swap14 (p : Nat) (va : Option Addr) (n : Nat) (c : Nat) (now : Int) (x : Nat × (Option Addr × Nat)) (y : Nat) (j : Nat) (e14 : ¬ j = 14) (e15 : ¬ j = 15) (e18 : ¬ j = 18) : ((lay_arr1 p va n c now) (y, x.2))[j]? = ((lay_arr1 p va n c now) x)[j]? := by
  have h : (lay_arr1 p va n c now) (y, x.2) = (((((lay_arr1 p va n c now) x).set 14 (some 22, .slice (some ⟨y, 0, none⟩) (1) (1))).set 15 (some 23, .slice (x.2.1) (n + 1) (x.2.2))).set 18 (none, undef)) := rfl
  rw [h, List.getElem?_set_ne (fun h => e18 h.symm), List.getElem?_set_ne (fun h => e15 h.symm), List.getElem?_set_ne (fun h => e14 h.symm)]
theorem arr1_swap15 (p : Nat) (va : Option Addr) (n : Nat) (c : Nat) (now : Int) (x : Nat × (Option Addr × Nat)) (y : (Option Addr × Nat)) (j : Nat) (e15 : ¬ j = 15) (e18 : ¬ j = 18) : ((lay_arr1 p va n c now) (x.1, y))[j]? = ((lay_arr1 p va n c now) x)[j]? := by
  have h : (lay_arr1 p va n c now) (x.1, y) = ((((lay_arr1 p va n c now) x).set 15 (some 23, .slice (y.1) (n + 1) (y.2))).set 18 (none, undef)) := rfl
  rw [h, List.getElem?_set_ne (fun h => e18 h.symm), List.getElem?_set_ne (fun h => e15 h.symm)]
section
variable (p : Nat) (va : Option Addr) (n : Nat) (c : Nat) (now : Int) (X : (Nat × (Option Addr × Nat)) → Bool → Bool → Bool → World → Prop)
theorem arr1_0 (t0 : Array Value) (hz : t0.size = 44) (ht0 : t0[0]? = some (.pointer (some ⟨p, 0, none⟩))) (Q : Exit → Act → World → Prop) : RStepX Tryz.prog R_arr1 (lay_arr1 p va n c now) t0 (fun x L => X x (L 14) (L 15) (L 18)) Q 0 := by
  intro x L o a w ho hL hd hI
  have f0 : a.tmps[0]? = some (.pointer (some ⟨p, 0, none⟩)) := hI.from ht0 rfl
  have h : R_arr1[0]? = some R_arr1[0] := rfl
  conv at h => rhs; arg 1; whnf
  simp only [wpOp, h]
  rw [if_pos (by rfl)]
  left
  go_simp
  exact ⟨x, hI.put (arr1_nodup p va n c now _) 0 ho hd _ _ _ rfl (.inr rfl) (by intro e he; cases he; exact hz ▸ (by decide : (8 : Nat) < 44)) hI.wd⟩
theorem arr1_1 (t0 : Array Value) (hz : t0.size = 44) (ht0 : t0[0]? = some (.pointer (some ⟨p, 0, none⟩))) (Q : Exit → Act → World → Prop) : RStepX Tryz.prog R_arr1 (lay_arr1 p va n c now) t0 (fun x L => X x (L 14) (L 15) (L 18)) Q 1 := by
  intro x L o a w ho hL hd hI
  have f0 : a.tmps[0]? = some (.pointer (some ⟨p, 0, none⟩)) := hI.from ht0 rfl
  have h : R_arr1[1]? = some R_arr1[1] := rfl
  conv at h => rhs; arg 1; whnf
  simp only [wpOp, h]
  rw [if_pos (by rfl)]
  left
  go_simp
  exact ⟨x, hI.put (arr1_nodup p va n c now _) 1 ho hd _ _ _ rfl (.inr rfl) (by intro e he; cases he; exact hz ▸ (by decide : (9 : Nat) < 44)) hI.wd⟩
theorem arr1_2 (t0 : Array Value) (hz : t0.size = 44) (Q : Exit → Act → World → Prop) : RStepX Tryz.prog R_arr1 (lay_arr1 p va n c now) t0 (fun x L => X x (L 14) (L 15) (L 18)) Q 2 := by
  intro x L o a w ho hL hd hI
  have d1 : L 1 = true := dep_spec ho hd (k := 1) (by kernel_rfl)
  have f9 : a.tmps[9]? = some (.pointer (some ⟨p, 0, none⟩)) := hI.at 1 rfl d1
  have h : R_arr1[2]? = some R_arr1[2] := rfl
  conv at h => rhs; arg 1; whnf
  simp only [wpOp, h]
  rw [if_pos (by rfl)]
  left
  go_simp
  exact ⟨x, hI.put (arr1_nodup p va n c now _) 2 ho hd _ _ _ rfl (.inr rfl) (by intro e he; cases he; exact hz ▸ (by decide : (10 : Nat) < 44)) hI.wd⟩
theorem arr1_3 (t0 : Array Value) (hz : t0.size = 44) (Q : Exit → Act → World → Prop) : RStepX Tryz.prog R_arr1 (lay_arr1 p va n c now) t0 (fun x L => X x (L 14) (L 15) (L 18)) Q 3 := by
  intro x L o a w ho hL hd hI
  have d2 : L 2 = true := dep_spec ho hd (k := 2) (by kernel_rfl)
  have f10 : a.tmps[10]? = some (.pointer (some ⟨p, 0, none⟩)) := hI.at 2 rfl d2
  have h : R_arr1[3]? = some R_arr1[3] := rfl
  conv at h => rhs; arg 1; whnf
  simp only [wpOp, h]
  rw [if_pos (by rfl)]
  left
  go_simp
  exact ⟨x, hI.put (arr1_nodup p va n c now _) 3 ho hd _ _ _ rfl (.inr rfl) (by intro e he; cases he; exact hz ▸ (by decide : (11 : Nat) < 44)) hI.wd⟩
theorem arr1_4 (M4 : ∀ (x : (Nat × (Option Addr × Nat))) (b0 : Bool) (w : World), X x b0 false false w → w.cell? ⟨p, 22, none⟩ = some (.slice (va) (n) (c))) (t0 : Array Value) (hz : t0.size = 44) (Q : Exit → Act → World → Prop) : RStepX Tryz.prog R_arr1 (lay_arr1 p va n c now) t0 (fun x L => X x (L 14) (L 15) (L 18)) Q 4 := by
  intro x L o a w ho hL hd hI
  have d3 : L 3 = true := dep_spec ho hd (k := 3) (by kernel_rfl)
  have f11 : a.tmps[11]? = some (.pointer (some ⟨p, 22, none⟩)) := hI.at 3 rfl d3
  have z15 : L 15 = false := by
    cases q15 : L 15 with
    | false => rfl
    | true =>
      have q4 : L 4 = true := hI.tr q15 (by kernel_rfl)
      rw [hL] at q4; cases q4
  have z18 : L 18 = false := by
    cases q18 : L 18 with
    | false => rfl
    | true =>
      have q4 : L 4 = true := hI.tr q18 (by kernel_rfl)
      rw [hL] at q4; cases q4
  have hw : X x (L 14) (L 15) (L 18) w := hI.wd
  rw [z15, z18] at hw
  have hv := M4 x (L 14) w hw
  have h : R_arr1[4]? = some R_arr1[4] := rfl
  conv at h => rhs; arg 1; whnf
  simp only [wpOp, h]
  rw [if_pos (by rfl)]
  left
  go_simp
  exact ⟨x, hI.put (arr1_nodup p va n c now _) 4 ho hd _ _ _ rfl (.inr rfl) (by intro e he; cases he; exact hz ▸ (by decide : (12 : Nat) < 44)) hI.wd⟩
theorem arr1_5 (t0 : Array Value) (hz : t0.size = 44) (ht0 : t0[0]? = some (.pointer (some ⟨p, 0, none⟩))) (Q : Exit → Act → World → Prop) : RStepX Tryz.prog R_arr1 (lay_arr1 p va n c now) t0 (fun x L => X x (L 14) (L 15) (L 18)) Q 5 := by
  intro x L o a w ho hL hd hI
  have f0 : a.tmps[0]? = some (.pointer (some ⟨p, 0, none⟩)) := hI.from ht0 rfl
  have h : R_arr1[5]? = some R_arr1[5] := rfl
  conv at h => rhs; arg 1; whnf
  simp only [wpOp, h]
  rw [if_pos (by rfl)]
  left
  go_simp
  exact ⟨x, hI.put (arr1_nodup p va n c now _) 5 ho hd _ _ _ rfl (.inr rfl) (by intro e he; cases he; exact hz ▸ (by decide : (13 : Nat) < 44)) hI.wd⟩
theorem arr1_6 (t0 : Array Value) (hz : t0.size = 44) (Q : Exit → Act → World → Prop) : RStepX Tryz.prog R_arr1 (lay_arr1 p va n c now) t0 (fun x L => X x (L 14) (L 15) (L 18)) Q 6 := by
  intro x L o a w ho hL hd hI
  have d5 : L 5 = true := dep_spec ho hd (k := 5) (by kernel_rfl)
  have f13 : a.tmps[13]? = some (.pointer (some ⟨p, 0, none⟩)) := hI.at 5 rfl d5
  have h : R_arr1[6]? = some R_arr1[6] := rfl
  conv at h => rhs; arg 1; whnf
  simp only [wpOp, h]
  rw [if_pos (by rfl)]
  left
  go_simp
  exact ⟨x, hI.put (arr1_nodup p va n c now _) 6 ho hd _ _ _ rfl (.inr rfl) (by intro e he; cases he; exact hz ▸ (by decide : (14 : Nat) < 44)) hI.wd⟩
theorem arr1_7 (t0 : Array Value) (hz : t0.size = 44) (Q : Exit → Act → World → Prop) : RStepX Tryz.prog R_arr1 (lay_arr1 p va n c now) t0 (fun x L => X x (L 14) (L 15) (L 18)) Q 7 := by
  intro x L o a w ho hL hd hI
  have d6 : L 6 = true := dep_spec ho hd (k := 6) (by kernel_rfl)
  have f14 : a.tmps[14]? = some (.pointer (some ⟨p, 0, none⟩)) := hI.at 6 rfl d6
  have h : R_arr1[7]? = some R_arr1[7] := rfl
  conv at h => rhs; arg 1; whnf
  simp only [wpOp, h]
  rw [if_pos (by rfl)]
  left
  go_simp
  exact ⟨x, hI.put (arr1_nodup p va n c now _) 7 ho hd _ _ _ rfl (.inr rfl) (by intro e he; cases he; exact hz ▸ (by decide : (15 : Nat) < 44)) hI.wd⟩
theorem arr1_8 (M8 : ∀ (x : (Nat × (Option Addr × Nat))) (w : World), X x false false false w → w.cell? ⟨p, 20, none⟩ = some (.int .i64 now)) (t0 : Array Value) (hz : t0.size = 44) (Q : Exit → Act → World → Prop) : RStepX Tryz.prog R_arr1 (lay_arr1 p va n c now) t0 (fun x L => X x (L 14) (L 15) (L 18)) Q 8 := by
  intro x L o a w ho hL hd hI
  have d7 : L 7 = true := dep_spec ho hd (k := 7) (by kernel_rfl)
  have f15 : a.tmps[15]? = some (.pointer (some ⟨p, 20, none⟩)) := hI.at 7 rfl d7
  have z14 : L 14 = false := by
    cases q14 : L 14 with
    | false => rfl
    | true =>
      have q13 : L 13 = true := hI.tr q14 (by kernel_rfl)
      have q8 : L 8 = true := hI.tr q13 (by kernel_rfl)
      rw [hL] at q8; cases q8
  have z15 : L 15 = false := by
    cases q15 : L 15 with
    | false => rfl
    | true =>
      have q14 : L 14 = true := hI.tr q15 (by kernel_rfl)
      have q13 : L 13 = true := hI.tr q14 (by kernel_rfl)
      have q8 : L 8 = true := hI.tr q13 (by kernel_rfl)
      rw [hL] at q8; cases q8
  have z18 : L 18 = false := by
    cases q18 : L 18 with
    | false => rfl
    | true =>
      have q8 : L 8 = true := hI.tr q18 (by kernel_rfl)
      rw [hL] at q8; cases q8
  have hw : X x (L 14) (L 15) (L 18) w := hI.wd
  rw [z14, z15, z18] at hw
  have hv := M8 x  w hw
  have h : R_arr1[8]? = some R_arr1[8] := rfl
  conv at h => rhs; arg 1; whnf
  simp only [wpOp, h]
  rw [if_pos (by rfl)]
  left
  go_simp
  exact ⟨x, hI.put (arr1_nodup p va n c now _) 8 ho hd _ _ _ rfl (.inr rfl) (by intro e he; cases he; exact hz ▸ (by decide : (16 : Nat) < 44)) hI.wd⟩
theorem arr1_9 (t0 : Array Value) (hz : t0.size = 44) (ht0 : t0[0]? = some (.pointer (some ⟨p, 0, none⟩))) (Q : Exit → Act → World → Prop) : RStepX Tryz.prog R_arr1 (lay_arr1 p va n c now) t0 (fun x L => X x (L 14) (L 15) (L 18)) Q 9 := by
  intro x L o a w ho hL hd hI
  have f0 : a.tmps[0]? = some (.pointer (some ⟨p, 0, none⟩)) := hI.from ht0 rfl
  have h : R_arr1[9]? = some R_arr1[9] := rfl
  conv at h => rhs; arg 1; whnf
  simp only [wpOp, h]
  rw [if_pos (by rfl)]
  left
  go_simp
  exact ⟨x, hI.put (arr1_nodup p va n c now _) 9 ho hd _ _ _ rfl (.inr rfl) (by intro e he; cases he; exact hz ▸ (by decide : (17 : Nat) < 44)) hI.wd⟩
theorem arr1_10 (t0 : Array Value) (hz : t0.size = 44) (Q : Exit → Act → World → Prop) : RStepX Tryz.prog R_arr1 (lay_arr1 p va n c now) t0 (fun x L => X x (L 14) (L 15) (L 18)) Q 10 := by
  intro x L o a w ho hL hd hI
  have d9 : L 9 = true := dep_spec ho hd (k := 9) (by kernel_rfl)
  have f17 : a.tmps[17]? = some (.pointer (some ⟨p, 0, none⟩)) := hI.at 9 rfl d9
  have h : R_arr1[10]? = some R_arr1[10] := rfl
  conv at h => rhs; arg 1; whnf
  simp only [wpOp, h]
  rw [if_pos (by rfl)]
  left
  go_simp
  exact ⟨x, hI.put (arr1_nodup p va n c now _) 10 ho hd _ _ _ rfl (.inr rfl) (by intro e he; cases he; exact hz ▸ (by decide : (18 : Nat) < 44)) hI.wd⟩
theorem arr1_11 (t0 : Array Value) (hz : t0.size = 44) (Q : Exit → Act → World → Prop) : RStepX Tryz.prog R_arr1 (lay_arr1 p va n c now) t0 (fun x L => X x (L 14) (L 15) (L 18)) Q 11 := by
  intro x L o a w ho hL hd hI
  have d10 : L 10 = true := dep_spec ho hd (k := 10) (by kernel_rfl)
  have f18 : a.tmps[18]? = some (.pointer (some ⟨p, 0, none⟩)) := hI.at 10 rfl d10
  have h : R_arr1[11]? = some R_arr1[11] := rfl
  conv at h => rhs; arg 1; whnf
  simp only [wpOp, h]
  rw [if_pos (by rfl)]
  left
  go_simp
  exact ⟨x, hI.put (arr1_nodup p va n c now _) 11 ho hd _ _ _ rfl (.inr rfl) (by intro e he; cases he; exact hz ▸ (by decide : (19 : Nat) < 44)) hI.wd⟩
theorem arr1_12 (M8 : ∀ (x : (Nat × (Option Addr × Nat))) (w : World), X x false false false w → w.cell? ⟨p, 20, none⟩ = some (.int .i64 now)) (t0 : Array Value) (hz : t0.size = 44) (Q : Exit → Act → World → Prop) : RStepX Tryz.prog R_arr1 (lay_arr1 p va n c now) t0 (fun x L => X x (L 14) (L 15) (L 18)) Q 12 := by
  intro x L o a w ho hL hd hI
  have d11 : L 11 = true := dep_spec ho hd (k := 11) (by kernel_rfl)
  have f19 : a.tmps[19]? = some (.pointer (some ⟨p, 20, none⟩)) := hI.at 11 rfl d11
  have z14 : L 14 = false := by
    cases q14 : L 14 with
    | false => rfl
    | true =>
      have q13 : L 13 = true := hI.tr q14 (by kernel_rfl)
      have q12 : L 12 = true := hI.tr q13 (by kernel_rfl)
      rw [hL] at q12; cases q12
  have z15 : L 15 = false := by
    cases q15 : L 15 with
    | false => rfl
    | true =>
      have q14 : L 14 = true := hI.tr q15 (by kernel_rfl)
      have q13 : L 13 = true := hI.tr q14 (by kernel_rfl)
      have q12 : L 12 = true := hI.tr q13 (by kernel_rfl)
      rw [hL] at q12; cases q12
  have z18 : L 18 = false := by
    cases q18 : L 18 with
    | false => rfl
    | true =>
      have q12 : L 12 = true := hI.tr q18 (by kernel_rfl)
      rw [hL] at q12; cases q12
  have hw : X x (L 14) (L 15) (L 18) w := hI.wd
  rw [z14, z15, z18] at hw
  have hv := M8 x  w hw
  have h : R_arr1[12]? = some R_arr1[12] := rfl
  conv at h => rhs; arg 1; whnf
  simp only [wpOp, h]
  rw [if_pos (by rfl)]
  left
  go_simp
  exact ⟨x, hI.put (arr1_nodup p va n c now _) 12 ho hd _ _ _ rfl (.inr rfl) (by intro e he; cases he; exact hz ▸ (by decide : (20 : Nat) < 44)) hI.wd⟩
theorem arr1_13 (t0 : Array Value) (hz : t0.size = 44) (Q : Exit → Act → World → Prop) : RStepX Tryz.prog R_arr1 (lay_arr1 p va n c now) t0 (fun x L => X x (L 14) (L 15) (L 18)) Q 13 := by
  intro x L o a w ho hL hd hI
  have d8 : L 8 = true := dep_spec ho hd (k := 8) (by kernel_rfl)
  have f16 : a.tmps[16]? = some (.int .i64 now) := hI.at 8 rfl d8
  have d12 : L 12 = true := dep_spec ho hd (k := 12) (by kernel_rfl)
  have f20 : a.tmps[20]? = some (.int .i64 now) := hI.at 12 rfl d12
  have h : R_arr1[13]? = some R_arr1[13] := rfl
  conv at h => rhs; arg 1; whnf
  simp only [wpOp, h]
  rw [if_pos (by rfl)]
  left
  go_simp
  exact ⟨x, hI.put (arr1_nodup p va n c now _) 13 ho hd _ _ _ rfl (.inr rfl) (by intro e he; cases he; exact hz ▸ (by decide : (21 : Nat) < 44)) hI.wd⟩
theorem arr1_14 (B14 : ∀ (x : (Nat × (Option Addr × Nat))) (w : World), X x false false false w → X (w.heap.size, x.2) true false false (w.alloc (.cells #[.int .i64 now, .int .i64 now, .int .i64 1, .int .i64 (-1)] 48))) (t0 : Array Value) (hz : t0.size = 44) (Q : Exit → Act → World → Prop) : RStepX Tryz.prog R_arr1 (lay_arr1 p va n c now) t0 (fun x L => X x (L 14) (L 15) (L 18)) Q 14 := by
  intro x L o a w ho hL hd hI
  have d13 : L 13 = true := dep_spec ho hd (k := 13) (by kernel_rfl)
  have f21 : a.tmps[21]? = some (.agg #[.int .i64 now, .int .i64 now, .int .i64 1, .int .i64 (-1)]) := hI.at 13 rfl d13
  have z14 : L 14 = false := hL
  have z15 : L 15 = false := by
    cases q15 : L 15 with
    | false => rfl
    | true =>
      have q14 : L 14 = true := hI.tr q15 (by kernel_rfl)
      rw [hL] at q14; cases q14
  have z18 : L 18 = false := by
    cases q18 : L 18 with
    | false => rfl
    | true =>
      have q14 : L 14 = true := hI.tr q18 (by kernel_rfl)
      rw [hL] at q14; cases q14
  have hw : X x (L 14) (L 15) (L 18) w := hI.wd
  rw [z14, z15, z18] at hw
  have hv := B14 x  w hw
  have h : R_arr1[14]? = some R_arr1[14] := rfl
  conv at h => rhs; arg 1; whnf
  simp only [wpOp, h]
  rw [if_pos (by rfl)]
  left
  go_simp
  have hx2 : X (w.heap.size, x.2) true (L 15) (L 18) (w.alloc (.cells #[.int .i64 now, .int .i64 now, .int .i64 1, .int .i64 (-1)] 48)) := by
    rw [z15, z18]
    exact hv
  have n15 : L 15 = false := by
    cases q15 : L 15 with
    | false => rfl
    | true =>
      have q14 : L 14 = true := hI.tr q15 (by kernel_rfl)
      rw [hL] at q14; cases q14
  have n18 : L 18 = false := by
    cases q18 : L 18 with
    | false => rfl
    | true =>
      have q14 : L 14 = true := hI.tr q18 (by kernel_rfl)
      rw [hL] at q14; cases q14
  have hsw : ∀ j, L j = true → ((lay_arr1 p va n c now) (w.heap.size, x.2))[j]? = ((lay_arr1 p va n c now) x)[j]? := by
    intro j hj
    by_cases e14 : j = 14
    · subst e14; rw [hL] at hj; cases hj
    by_cases e15 : j = 15
    · subst e15; rw [n15] at hj; cases hj
    by_cases e18 : j = 18
    · subst e18; rw [n18] at hj; cases hj
    exact arr1_swap14 p va n c now x _ j e14 e15 e18
  have hp := (hI.swap (l' := (lay_arr1 p va n c now) (w.heap.size, x.2)) rfl hsw)
  exact ⟨(w.heap.size, x.2), (hp.put (w' := w) (arr1_nodup p va n c now _) 14 ho hd _ _ _ rfl (.inr rfl) (by intro e he; cases he; exact hz ▸ (by decide : (22 : Nat) < 44)) trivial).rewd hx2⟩
theorem arr1_15 (B15 : ∀ (x : (Nat × (Option Addr × Nat))) (w : World), X x true false false w → ∃ (S : Nat → Prop) (xs : List Value), Own w S 48 4 (.slice (va) (n) (c)) (n) xs ∧ (∀ j u, ([.int .i64 now, .int .i64 now, .int .i64 1, .int .i64 (-1)] : List Value)[j]? = some u → w.cell? ((⟨x.1, 0, none⟩ : Addr).add j) = some u) ∧ (n) + 1 ≤ maxLen ∧ ((n) + 1) * 32 ≤ 140737488355328 ∧ ∀ g' o' c' w', Own w' (nx S w w') 48 4 (.slice (some ⟨g', o', none⟩) ((n) + 1) c') ((n) + 1) (xs ++ [.int .i64 now, .int .i64 now, .int .i64 1, .int .i64 (-1)]) → Chg S w w' → X (x.1, (some ⟨g', o', none⟩, c')) true true false w') (t0 : Array Value) (hz : t0.size = 44) (Q : Exit → Act → World → Prop) : RStepX Tryz.prog R_arr1 (lay_arr1 p va n c now) t0 (fun x L => X x (L 14) (L 15) (L 18)) Q 15 := by
  intro x L o a w ho hL hd hI
  have d4 : L 4 = true := dep_spec ho hd (k := 4) (by kernel_rfl)
  have f12 : a.tmps[12]? = some (.slice (va) (n) (c)) := hI.at 4 rfl d4
  have d14 : L 14 = true := dep_spec ho hd (k := 14) (by kernel_rfl)
  have f22 : a.tmps[22]? = some (.slice (some ⟨x.1, 0, none⟩) (1) (1)) := hI.at 14 rfl d14
  have y14 : L 14 = true := dep_spec ho hd (k := 14) (by kernel_rfl)
  have z14 : L 14 = true := y14
  have z15 : L 15 = false := hL
  have z18 : L 18 = false := by
    cases q18 : L 18 with
    | false => rfl
    | true =>
      have q15 : L 15 = true := hI.tr q18 (by kernel_rfl)
      rw [hL] at q15; cases q15
  have hw : X x (L 14) (L 15) (L 18) w := hI.wd
  rw [z14, z15, z18] at hw
  obtain ⟨S, xs, hown, hnews, h63, hby, hK⟩ := B15 x  w hw
  have h : R_arr1[15]? = some R_arr1[15] := rfl
  conv at h => rhs; arg 1; whnf
  simp only [wpOp, h]
  rw [if_pos (by rfl)]
  left
  obtain ⟨i0, hi, hz0, hz1, hz2⟩ := info_parts info48
  refine oper_app (.tmp 12) (.tmp 22) 45 rfl S 48 i0 _ 4 32 Tryz.underlying45 hi hz0 hz1 hz2 rfl _ _ xs (by simp [Act.eval, f12]) hown ⟨x.1, 0, none⟩ 1 1 [.int .i64 now, .int .i64 now, .int .i64 1, .int .i64 (-1)] (by simp [Act.eval, f22]) (by decide) rfl hnews (by simp [Value.oneCell']) h63 hby ?_
  intro g' o' c' w' ho' hc'
  have hx := hK g' o' c' w' ho' hc'
  have hx2 : X (x.1, (some ⟨g', o', none⟩, c')) (L 14) true (L 18) w' := by
    rw [z14, z18]
    exact hx
  have n18 : L 18 = false := by
    cases q18 : L 18 with
    | false => rfl
    | true =>
      have q15 : L 15 = true := hI.tr q18 (by kernel_rfl)
      rw [hL] at q15; cases q15
  have hsw : ∀ j, L j = true → ((lay_arr1 p va n c now) (x.1, (some ⟨g', o', none⟩, c')))[j]? = ((lay_arr1 p va n c now) x)[j]? := by
    intro j hj
    by_cases e15 : j = 15
    · subst e15; rw [hL] at hj; cases hj
    by_cases e18 : j = 18
    · subst e18; rw [n18] at hj; cases hj
    exact arr1_swap15 p va n c now x _ j e15 e18
  have hp := (hI.swap (l' := (lay_arr1 p va n c now) (x.1, (some ⟨g', o', none⟩, c'))) rfl hsw)
  exact ⟨(x.1, (some ⟨g', o', none⟩, c')), (hp.put (w' := w) (arr1_nodup p va n c now _) 15 ho hd _ _ _ rfl (.inr rfl) (by intro e he; cases he; exact hz ▸ (by decide : (23 : Nat) < 44)) trivial).rewd hx2⟩
theorem arr1_16 (t0 : Array Value) (hz : t0.size = 44) (Q : Exit → Act → World → Prop) : RStepX Tryz.prog R_arr1 (lay_arr1 p va n c now) t0 (fun x L => X x (L 14) (L 15) (L 18)) Q 16 := by
  intro x L o a w ho hL hd hI
  have d0 : L 0 = true := dep_spec ho hd (k := 0) (by kernel_rfl)
  have f8 : a.tmps[8]? = some (.pointer (some ⟨p, 0, none⟩)) := hI.at 0 rfl d0
  have h : R_arr1[16]? = some R_arr1[16] := rfl
  conv at h => rhs; arg 1; whnf
  simp only [wpOp, h]
  rw [if_pos (by rfl)]
  left
  go_simp
  exact ⟨x, hI.put (arr1_nodup p va n c now _) 16 ho hd _ _ _ rfl (.inr rfl) (by intro e he; cases he; exact hz ▸ (by decide : (24 : Nat) < 44)) hI.wd⟩
theorem arr1_17 (t0 : Array Value) (hz : t0.size = 44) (Q : Exit → Act → World → Prop) : RStepX Tryz.prog R_arr1 (lay_arr1 p va n c now) t0 (fun x L => X x (L 14) (L 15) (L 18)) Q 17 := by
  intro x L o a w ho hL hd hI
  have d16 : L 16 = true := dep_spec ho hd (k := 16) (by kernel_rfl)
  have f24 : a.tmps[24]? = some (.pointer (some ⟨p, 0, none⟩)) := hI.at 16 rfl d16
  have h : R_arr1[17]? = some R_arr1[17] := rfl
  conv at h => rhs; arg 1; whnf
  simp only [wpOp, h]
  rw [if_pos (by rfl)]
  left
  go_simp
  exact ⟨x, hI.put (arr1_nodup p va n c now _) 17 ho hd _ _ _ rfl (.inr rfl) (by intro e he; cases he; exact hz ▸ (by decide : (25 : Nat) < 44)) hI.wd⟩
theorem arr1_18 (S18 : ∀ (x : (Nat × (Option Addr × Nat))) (w : World), X x true true false w → ∃ u0, w.cell? ⟨p, 22, none⟩ = some u0 ∧ w.frozen? ⟨p, 22, none⟩ = false ∧ X x true true true (w.setCell ⟨p, 22, none⟩ (.slice (x.2.1) (n + 1) (x.2.2)))) (t0 : Array Value) (hz : t0.size = 44) (Q : Exit → Act → World → Prop) : RStepX Tryz.prog R_arr1 (lay_arr1 p va n c now) t0 (fun x L => X x (L 14) (L 15) (L 18)) Q 18 := by
  intro x L o a w ho hL hd hI
  have _ := hz
  have d17 : L 17 = true := dep_spec ho hd (k := 17) (by kernel_rfl)
  have f25 : a.tmps[25]? = some (.pointer (some ⟨p, 22, none⟩)) := hI.at 17 rfl d17
  have d15 : L 15 = true := dep_spec ho hd (k := 15) (by kernel_rfl)
  have f23 : a.tmps[23]? = some (.slice (x.2.1) (n + 1) (x.2.2)) := hI.at 15 rfl d15
  have y14 : L 14 = true := dep_spec ho hd (k := 14) (by kernel_rfl)
  have z14 : L 14 = true := y14
  have y15 : L 15 = true := dep_spec ho hd (k := 15) (by kernel_rfl)
  have z15 : L 15 = true := y15
  have z18 : L 18 = false := hL
  have hw : X x (L 14) (L 15) (L 18) w := hI.wd
  rw [z14, z15, z18] at hw
  obtain ⟨u0, c0, g0, hx⟩ := S18 x  w hw
  have h : R_arr1[18]? = some R_arr1[18] := rfl
  conv at h => rhs; arg 1; whnf
  simp only [wpOp, h]
  rw [if_pos (by rfl)]
  left
  go_simp
  have hx2 : X x (L 14) (L 15) true (w.setCell ⟨p, 22, none⟩ (.slice (x.2.1) (n + 1) (x.2.2))) := by
    rw [z14, z15]
    exact hx
  exact ⟨x, ((hI.rewd (Wd' := fun _ _ => True) (w' := w) trivial).put (w' := w) (arr1_nodup p va n c now _) 18 ho hd none undef undef rfl (.inl rfl) (by intro e he; cases he) trivial).rewd hx2⟩
theorem arr1_step (M4 : ∀ (x : (Nat × (Option Addr × Nat))) (b0 : Bool) (w : World), X x b0 false false w → w.cell? ⟨p, 22, none⟩ = some (.slice (va) (n) (c))) (M8 : ∀ (x : (Nat × (Option Addr × Nat))) (w : World), X x false false false w → w.cell? ⟨p, 20, none⟩ = some (.int .i64 now)) (B14 : ∀ (x : (Nat × (Option Addr × Nat))) (w : World), X x false false false w → X (w.heap.size, x.2) true false false (w.alloc (.cells #[.int .i64 now, .int .i64 now, .int .i64 1, .int .i64 (-1)] 48))) (B15 : ∀ (x : (Nat × (Option Addr × Nat))) (w : World), X x true false false w → ∃ (S : Nat → Prop) (xs : List Value), Own w S 48 4 (.slice (va) (n) (c)) (n) xs ∧ (∀ j u, ([.int .i64 now, .int .i64 now, .int .i64 1, .int .i64 (-1)] : List Value)[j]? = some u → w.cell? ((⟨x.1, 0, none⟩ : Addr).add j) = some u) ∧ (n) + 1 ≤ maxLen ∧ ((n) + 1) * 32 ≤ 140737488355328 ∧ ∀ g' o' c' w', Own w' (nx S w w') 48 4 (.slice (some ⟨g', o', none⟩) ((n) + 1) c') ((n) + 1) (xs ++ [.int .i64 now, .int .i64 now, .int .i64 1, .int .i64 (-1)]) → Chg S w w' → X (x.1, (some ⟨g', o', none⟩, c')) true true false w') (S18 : ∀ (x : (Nat × (Option Addr × Nat))) (w : World), X x true true false w → ∃ u0, w.cell? ⟨p, 22, none⟩ = some u0 ∧ w.frozen? ⟨p, 22, none⟩ = false ∧ X x true true true (w.setCell ⟨p, 22, none⟩ (.slice (x.2.1) (n + 1) (x.2.2)))) (t0 : Array Value) (hz : t0.size = 44) (ht0 : t0[0]? = some (.pointer (some ⟨p, 0, none⟩))) (Q : Exit → Act → World → Prop) : ∀ i, i < 19 → RStepX Tryz.prog R_arr1 (lay_arr1 p va n c now) t0 (fun x L => X x (L 14) (L 15) (L 18)) Q i
  | 0, _ => arr1_0 p va n c now X   t0 hz ht0 Q
  | 1, _ => arr1_1 p va n c now X   t0 hz ht0 Q
  | 2, _ => arr1_2 p va n c now X   t0 hz  Q
  | 3, _ => arr1_3 p va n c now X   t0 hz  Q
  | 4, _ => arr1_4 p va n c now X  M4 t0 hz  Q
  | 5, _ => arr1_5 p va n c now X   t0 hz ht0 Q
  | 6, _ => arr1_6 p va n c now X   t0 hz  Q
  | 7, _ => arr1_7 p va n c now X   t0 hz  Q
  | 8, _ => arr1_8 p va n c now X  M8 t0 hz  Q
  | 9, _ => arr1_9 p va n c now X   t0 hz ht0 Q
  | 10, _ => arr1_10 p va n c now X   t0 hz  Q
  | 11, _ => arr1_11 p va n c now X   t0 hz  Q
  | 12, _ => arr1_12 p va n c now X  M8 t0 hz  Q
  | 13, _ => arr1_13 p va n c now X   t0 hz  Q
  | 14, _ => arr1_14 p va n c now X  B14 t0 hz  Q
  | 15, _ => arr1_15 p va n c now X  B15 t0 hz  Q
  | 16, _ => arr1_16 p va n c now X   t0 hz  Q
  | 17, _ => arr1_17 p va n c now X   t0 hz  Q
  | 18, _ => arr1_18 p va n c now X  S18 t0 hz  Q
  | k + 19, h => absurd h (by omega)
end
theorem arr1_at {ops : Array Oper} (ho : ops = R_arr1) (p : Nat) (va : Option Addr) (n : Nat) (c : Nat) (now : Int) (X : (Nat × (Option Addr × Nat)) → Bool → Bool → Bool → World → Prop)  (M4 : ∀ (x : (Nat × (Option Addr × Nat))) (b0 : Bool) (w : World), X x b0 false false w → w.cell? ⟨p, 22, none⟩ = some (.slice (va) (n) (c))) (M8 : ∀ (x : (Nat × (Option Addr × Nat))) (w : World), X x false false false w → w.cell? ⟨p, 20, none⟩ = some (.int .i64 now)) (B14 : ∀ (x : (Nat × (Option Addr × Nat))) (w : World), X x false false false w → X (w.heap.size, x.2) true false false (w.alloc (.cells #[.int .i64 now, .int .i64 now, .int .i64 1, .int .i64 (-1)] 48))) (B15 : ∀ (x : (Nat × (Option Addr × Nat))) (w : World), X x true false false w → ∃ (S : Nat → Prop) (xs : List Value), Own w S 48 4 (.slice (va) (n) (c)) (n) xs ∧ (∀ j u, ([.int .i64 now, .int .i64 now, .int .i64 1, .int .i64 (-1)] : List Value)[j]? = some u → w.cell? ((⟨x.1, 0, none⟩ : Addr).add j) = some u) ∧ (n) + 1 ≤ maxLen ∧ ((n) + 1) * 32 ≤ 140737488355328 ∧ ∀ g' o' c' w', Own w' (nx S w w') 48 4 (.slice (some ⟨g', o', none⟩) ((n) + 1) c') ((n) + 1) (xs ++ [.int .i64 now, .int .i64 now, .int .i64 1, .int .i64 (-1)]) → Chg S w w' → X (x.1, (some ⟨g', o', none⟩, c')) true true false w') (S18 : ∀ (x : (Nat × (Option Addr × Nat))) (w : World), X x true true false w → ∃ u0, w.cell? ⟨p, 22, none⟩ = some u0 ∧ w.frozen? ⟨p, 22, none⟩ = false ∧ X x true true true (w.setCell ⟨p, 22, none⟩ (.slice (x.2.1) (n + 1) (x.2.2)))) (t0 : Array Value) (hz : t0.size = 44) (ht0 : t0[0]? = some (.pointer (some ⟨p, 0, none⟩))) {id : Nat} {Q : Exit → Act → World → Prop} {w : World} (x0 : (Nat × (Option Addr × Nat))) (start : X x0 false false false w.drew) (fin : ∀ x w', X x true true true w' → Q .normal ⟨puts ((lay_arr1 p va n c now) x) t0, []⟩ w') : (Code.region id ops true).wp Tryz.prog Q ⟨t0, []⟩ w := by
  subst ho
  refine wp_regX (Wd := (fun x L => X x (L 14) (L 15) (L 18))) 19 rfl arr1_acyc arr1_size (fun _ => rfl) (arr1_nodup p va n c now) (fun x => by rw [arr1_dsts, hz]; rfl) x0 start (fun i hi => arr1_step p va n c now X  M4 M8 B14 B15 S18 t0 hz ht0 Q i hi) fun x L w' hl hw => fin x w' ?_
  have hw : X x (L 14) (L 15) (L 18) w' := hw
  rw [hl 14 (by omega), hl 15 (by omega), hl 18 (by omega)] at hw
  exact hw
noncomputable def R_arr2 : Array Oper := reg Tryz.f27 2
theorem arr2_size : R_arr2.size = 9 := by kernel_rfl
theorem arr2_acyc : acycB R_arr2 = true := by kernel_rfl
/-- What the operations lay. -/
noncomputable def lay_arr2 (p : Nat) (q : Nat) (k : Nat) (now : Int) (cd : Int) (_ : Unit) : Lay := [(some 26, .pointer (some ⟨p, 0, none⟩)),
  (some 27, .pointer (some ⟨q, 0, none⟩)),
  (some 28, .int .i64 k),
  (some 29, .pointer (some ⟨p, 0, none⟩)),
  (some 30, .pointer (some ⟨p, 0, none⟩)),
  (some 31, .pointer (some ⟨p, 20, none⟩)),
  (some 32, .int .i64 now),
  (some 33, .int .i64 cd),
  (some 34, .bool (cd != 0))]
theorem arr2_dsts (p : Nat) (q : Nat) (k : Nat) (now : Int) (cd : Int) (x : Unit) : dsts (lay_arr2 p q k now cd x) = [26, 27, 28, 29, 30, 31, 32, 33, 34] := rfl
theorem arr2_nodup (p : Nat) (q : Nat) (k : Nat) (now : Int) (cd : Int) (x : Unit) : (dsts (lay_arr2 p q k now cd x)).Nodup := by rw [arr2_dsts]; decide
section
variable (p : Nat) (q : Nat) (k : Nat) (now : Int) (cd : Int) (X : (Unit) → Bool → World → Prop)
theorem arr2_0 (t0 : Array Value) (hz : t0.size = 44) (ht0 : t0[0]? = some (.pointer (some ⟨p, 0, none⟩))) (Q : Exit → Act → World → Prop) : RStepX Tryz.prog R_arr2 (lay_arr2 p q k now cd) t0 (fun x L => X x (L 7)) Q 0 := by
  intro x L o a w ho hL hd hI
  have f0 : a.tmps[0]? = some (.pointer (some ⟨p, 0, none⟩)) := hI.from ht0 rfl
  have h : R_arr2[0]? = some R_arr2[0] := rfl
  conv at h => rhs; arg 1; whnf
  simp only [wpOp, h]
  rw [if_pos (by rfl)]
  left
  go_simp
  exact ⟨x, hI.put (arr2_nodup p q k now cd _) 0 ho hd _ _ _ rfl (.inr rfl) (by intro e he; cases he; exact hz ▸ (by decide : (26 : Nat) < 44)) hI.wd⟩
theorem arr2_1 (C1 : ∀ (x : (Unit)) (w : World), X x false w → Calls Tryz.prog 33 #[.pointer (some ⟨p, 0, none⟩)] w fun e w' => e = .returned (.pointer (some ⟨q, 0, none⟩)) ∧ X x false w') (t0 : Array Value) (hz : t0.size = 44) (Q : Exit → Act → World → Prop) : RStepX Tryz.prog R_arr2 (lay_arr2 p q k now cd) t0 (fun x L => X x (L 7)) Q 1 := by
  intro x L o a w ho hL hd hI
  have d0 : L 0 = true := dep_spec ho hd (k := 0) (by kernel_rfl)
  have f26 : a.tmps[26]? = some (.pointer (some ⟨p, 0, none⟩)) := hI.at 0 rfl d0
  have z7 : L 7 = false := by
    cases q7 : L 7 with
    | false => rfl
    | true =>
      have q1 : L 1 = true := hI.tr q7 (by kernel_rfl)
      rw [hL] at q1; cases q1
  have hw : X x (L 7) w := hI.wd
  rw [z7] at hw
  have h : R_arr2[1]? = some R_arr2[1] := rfl
  conv at h => rhs; arg 1; whnf
  simp only [wpOp, h]
  rw [if_pos (by rfl)]
  left
  go_simp
  refine (C1 x  w hw).mono ?_
  rintro e w' ⟨rfl, hx⟩
  have hx2 : X x (L 7) w' := by
    rw [z7]
    exact hx
  exact ⟨x, ((hI.rewd (Wd' := fun _ _ => True) (w' := w) trivial).put (w' := w) (arr2_nodup p q k now cd _) 1 ho hd _ _ _ rfl (.inr rfl) (by intro e he; cases he; exact hz ▸ (by decide : (27 : Nat) < 44)) trivial).rewd hx2⟩
theorem arr2_2 (t0 : Array Value) (hz : t0.size = 44) (ht2 : t0[2]? = some (.int .i64 k)) (Q : Exit → Act → World → Prop) : RStepX Tryz.prog R_arr2 (lay_arr2 p q k now cd) t0 (fun x L => X x (L 7)) Q 2 := by
  intro x L o a w ho hL hd hI
  have f2 : a.tmps[2]? = some (.int .i64 k) := hI.from ht2 rfl
  have h : R_arr2[2]? = some R_arr2[2] := rfl
  conv at h => rhs; arg 1; whnf
  simp only [wpOp, h]
  rw [if_pos (by rfl)]
  left
  go_simp
  exact ⟨x, hI.put (arr2_nodup p q k now cd _) 2 ho hd _ _ _ rfl (.inr rfl) (by intro e he; cases he; exact hz ▸ (by decide : (28 : Nat) < 44)) hI.wd⟩
theorem arr2_3 (t0 : Array Value) (hz : t0.size = 44) (ht0 : t0[0]? = some (.pointer (some ⟨p, 0, none⟩))) (Q : Exit → Act → World → Prop) : RStepX Tryz.prog R_arr2 (lay_arr2 p q k now cd) t0 (fun x L => X x (L 7)) Q 3 := by
  intro x L o a w ho hL hd hI
  have f0 : a.tmps[0]? = some (.pointer (some ⟨p, 0, none⟩)) := hI.from ht0 rfl
  have h : R_arr2[3]? = some R_arr2[3] := rfl
  conv at h => rhs; arg 1; whnf
  simp only [wpOp, h]
  rw [if_pos (by rfl)]
  left
  go_simp
  exact ⟨x, hI.put (arr2_nodup p q k now cd _) 3 ho hd _ _ _ rfl (.inr rfl) (by intro e he; cases he; exact hz ▸ (by decide : (29 : Nat) < 44)) hI.wd⟩
theorem arr2_4 (t0 : Array Value) (hz : t0.size = 44) (Q : Exit → Act → World → Prop) : RStepX Tryz.prog R_arr2 (lay_arr2 p q k now cd) t0 (fun x L => X x (L 7)) Q 4 := by
  intro x L o a w ho hL hd hI
  have d3 : L 3 = true := dep_spec ho hd (k := 3) (by kernel_rfl)
  have f29 : a.tmps[29]? = some (.pointer (some ⟨p, 0, none⟩)) := hI.at 3 rfl d3
  have h : R_arr2[4]? = some R_arr2[4] := rfl
  conv at h => rhs; arg 1; whnf
  simp only [wpOp, h]
  rw [if_pos (by rfl)]
  left
  go_simp
  exact ⟨x, hI.put (arr2_nodup p q k now cd _) 4 ho hd _ _ _ rfl (.inr rfl) (by intro e he; cases he; exact hz ▸ (by decide : (30 : Nat) < 44)) hI.wd⟩
theorem arr2_5 (t0 : Array Value) (hz : t0.size = 44) (Q : Exit → Act → World → Prop) : RStepX Tryz.prog R_arr2 (lay_arr2 p q k now cd) t0 (fun x L => X x (L 7)) Q 5 := by
  intro x L o a w ho hL hd hI
  have d4 : L 4 = true := dep_spec ho hd (k := 4) (by kernel_rfl)
  have f30 : a.tmps[30]? = some (.pointer (some ⟨p, 0, none⟩)) := hI.at 4 rfl d4
  have h : R_arr2[5]? = some R_arr2[5] := rfl
  conv at h => rhs; arg 1; whnf
  simp only [wpOp, h]
  rw [if_pos (by rfl)]
  left
  go_simp
  exact ⟨x, hI.put (arr2_nodup p q k now cd _) 5 ho hd _ _ _ rfl (.inr rfl) (by intro e he; cases he; exact hz ▸ (by decide : (31 : Nat) < 44)) hI.wd⟩
theorem arr2_6 (M6 : ∀ (x : (Unit)) (w : World), X x false w → w.cell? ⟨p, 20, none⟩ = some (.int .i64 now)) (t0 : Array Value) (hz : t0.size = 44) (Q : Exit → Act → World → Prop) : RStepX Tryz.prog R_arr2 (lay_arr2 p q k now cd) t0 (fun x L => X x (L 7)) Q 6 := by
  intro x L o a w ho hL hd hI
  have d5 : L 5 = true := dep_spec ho hd (k := 5) (by kernel_rfl)
  have f31 : a.tmps[31]? = some (.pointer (some ⟨p, 20, none⟩)) := hI.at 5 rfl d5
  have z7 : L 7 = false := by
    cases q7 : L 7 with
    | false => rfl
    | true =>
      have q6 : L 6 = true := hI.tr q7 (by kernel_rfl)
      rw [hL] at q6; cases q6
  have hw : X x (L 7) w := hI.wd
  rw [z7] at hw
  have hv := M6 x  w hw
  have h : R_arr2[6]? = some R_arr2[6] := rfl
  conv at h => rhs; arg 1; whnf
  simp only [wpOp, h]
  rw [if_pos (by rfl)]
  left
  go_simp
  exact ⟨x, hI.put (arr2_nodup p q k now cd _) 6 ho hd _ _ _ rfl (.inr rfl) (by intro e he; cases he; exact hz ▸ (by decide : (32 : Nat) < 44)) hI.wd⟩
theorem arr2_7 (C7 : ∀ (x : (Unit)) (w : World), X x false w → Calls Tryz.prog 50 #[.pointer (some ⟨q, 0, none⟩), .int .i64 k, .int .i64 now] w fun e w' => e = .returned (.int .i64 cd) ∧ X x true w') (t0 : Array Value) (hz : t0.size = 44) (Q : Exit → Act → World → Prop) : RStepX Tryz.prog R_arr2 (lay_arr2 p q k now cd) t0 (fun x L => X x (L 7)) Q 7 := by
  intro x L o a w ho hL hd hI
  have d1 : L 1 = true := dep_spec ho hd (k := 1) (by kernel_rfl)
  have f27 : a.tmps[27]? = some (.pointer (some ⟨q, 0, none⟩)) := hI.at 1 rfl d1
  have d2 : L 2 = true := dep_spec ho hd (k := 2) (by kernel_rfl)
  have f28 : a.tmps[28]? = some (.int .i64 k) := hI.at 2 rfl d2
  have d6 : L 6 = true := dep_spec ho hd (k := 6) (by kernel_rfl)
  have f32 : a.tmps[32]? = some (.int .i64 now) := hI.at 6 rfl d6
  have z7 : L 7 = false := hL
  have hw : X x (L 7) w := hI.wd
  rw [z7] at hw
  have h : R_arr2[7]? = some R_arr2[7] := rfl
  conv at h => rhs; arg 1; whnf
  simp only [wpOp, h]
  rw [if_pos (by rfl)]
  left
  go_simp
  refine (C7 x  w hw).mono ?_
  rintro e w' ⟨rfl, hx⟩
  have hx2 : X x true w' := by
    exact hx
  exact ⟨x, ((hI.rewd (Wd' := fun _ _ => True) (w' := w) trivial).put (w' := w) (arr2_nodup p q k now cd _) 7 ho hd _ _ _ rfl (.inr rfl) (by intro e he; cases he; exact hz ▸ (by decide : (33 : Nat) < 44)) trivial).rewd hx2⟩
theorem arr2_8 (t0 : Array Value) (hz : t0.size = 44) (Q : Exit → Act → World → Prop) : RStepX Tryz.prog R_arr2 (lay_arr2 p q k now cd) t0 (fun x L => X x (L 7)) Q 8 := by
  intro x L o a w ho hL hd hI
  have d7 : L 7 = true := dep_spec ho hd (k := 7) (by kernel_rfl)
  have f33 : a.tmps[33]? = some (.int .i64 cd) := hI.at 7 rfl d7
  have h : R_arr2[8]? = some R_arr2[8] := rfl
  conv at h => rhs; arg 1; whnf
  simp only [wpOp, h]
  rw [if_pos (by rfl)]
  left
  go_simp
  exact ⟨x, hI.put (arr2_nodup p q k now cd _) 8 ho hd _ _ _ rfl (.inr rfl) (by intro e he; cases he; exact hz ▸ (by decide : (34 : Nat) < 44)) hI.wd⟩
theorem arr2_step (M6 : ∀ (x : (Unit)) (w : World), X x false w → w.cell? ⟨p, 20, none⟩ = some (.int .i64 now)) (C1 : ∀ (x : (Unit)) (w : World), X x false w → Calls Tryz.prog 33 #[.pointer (some ⟨p, 0, none⟩)] w fun e w' => e = .returned (.pointer (some ⟨q, 0, none⟩)) ∧ X x false w') (C7 : ∀ (x : (Unit)) (w : World), X x false w → Calls Tryz.prog 50 #[.pointer (some ⟨q, 0, none⟩), .int .i64 k, .int .i64 now] w fun e w' => e = .returned (.int .i64 cd) ∧ X x true w') (t0 : Array Value) (hz : t0.size = 44) (ht0 : t0[0]? = some (.pointer (some ⟨p, 0, none⟩))) (ht2 : t0[2]? = some (.int .i64 k)) (Q : Exit → Act → World → Prop) : ∀ i, i < 9 → RStepX Tryz.prog R_arr2 (lay_arr2 p q k now cd) t0 (fun x L => X x (L 7)) Q i
  | 0, _ => arr2_0 p q k now cd X   t0 hz ht0 Q
  | 1, _ => arr2_1 p q k now cd X  C1 t0 hz  Q
  | 2, _ => arr2_2 p q k now cd X   t0 hz ht2 Q
  | 3, _ => arr2_3 p q k now cd X   t0 hz ht0 Q
  | 4, _ => arr2_4 p q k now cd X   t0 hz  Q
  | 5, _ => arr2_5 p q k now cd X   t0 hz  Q
  | 6, _ => arr2_6 p q k now cd X  M6 t0 hz  Q
  | 7, _ => arr2_7 p q k now cd X  C7 t0 hz  Q
  | 8, _ => arr2_8 p q k now cd X   t0 hz  Q
  | k + 9, h => absurd h (by omega)
end
theorem arr2_at {ops : Array Oper} (ho : ops = R_arr2) (p : Nat) (q : Nat) (k : Nat) (now : Int) (cd : Int) (X : (Unit) → Bool → World → Prop)  (M6 : ∀ (x : (Unit)) (w : World), X x false w → w.cell? ⟨p, 20, none⟩ = some (.int .i64 now)) (C1 : ∀ (x : (Unit)) (w : World), X x false w → Calls Tryz.prog 33 #[.pointer (some ⟨p, 0, none⟩)] w fun e w' => e = .returned (.pointer (some ⟨q, 0, none⟩)) ∧ X x false w') (C7 : ∀ (x : (Unit)) (w : World), X x false w → Calls Tryz.prog 50 #[.pointer (some ⟨q, 0, none⟩), .int .i64 k, .int .i64 now] w fun e w' => e = .returned (.int .i64 cd) ∧ X x true w') (t0 : Array Value) (hz : t0.size = 44) (ht0 : t0[0]? = some (.pointer (some ⟨p, 0, none⟩))) (ht2 : t0[2]? = some (.int .i64 k)) {id : Nat} {Q : Exit → Act → World → Prop} {w : World} (x0 : (Unit)) (start : X x0 false w.drew) (fin : ∀ x w', X x true w' → Q .normal ⟨puts ((lay_arr2 p q k now cd) x) t0, []⟩ w') : (Code.region id ops true).wp Tryz.prog Q ⟨t0, []⟩ w := by
  subst ho
  refine wp_regX (Wd := (fun x L => X x (L 7))) 9 rfl arr2_acyc arr2_size (fun _ => rfl) (arr2_nodup p q k now cd) (fun x => by rw [arr2_dsts, hz]; rfl) x0 start (fun i hi => arr2_step p q k now cd X  M6 C1 C7 t0 hz ht0 ht2 Q i hi) fun x L w' hl hw => fin x w' ?_
  have hw : X x (L 7) w' := hw
  rw [hl 7 (by omega)] at hw
  exact hw
noncomputable def R_fin5 : Array Oper := reg Tryz.f28 5
theorem fin5_size : R_fin5.size = 14 := by kernel_rfl
theorem fin5_acyc : acycB R_fin5 = true := by kernel_rfl
/-- What the operations lay. -/
noncomputable def lay_fin5 (p : Nat) (g : Nat) (of : Nat) (n : Nat) (c : Nat) (gi : Nat) (oi : Nat) (ni : Nat) (ci : Nat) (l : Nat) (nn : Nat) (k : Nat) (pod : Int) (cd : Int) (_ : Unit) : Lay := [(some 18, .pointer (some ⟨p, 0, none⟩)),
  (some 19, .pointer (some ⟨l, 0, none⟩)),
  (some 20, .pointer (some ⟨p, 0, none⟩)),
  (some 21, .pointer (some ⟨p, 0, none⟩)),
  (some 22, .pointer (some ⟨p, 22, none⟩)),
  (some 23, .slice (some ⟨g, of, none⟩) (n) (c)),
  (some 24, .slice (some ⟨gi, oi, none⟩) (ni) (ci)),
  (some 25, .int .i64 nn),
  (some 26, .pointer (some ⟨gi, oi + nn, none⟩)),
  (some 27, .int .i64 k),
  (some 28, .pointer (some ⟨g, of + k * 4, none⟩)),
  (some 29, .pointer (some ⟨g, of + k * 4 + 3, none⟩)),
  (some 30, .int .i64 pod),
  (some 31, .int .i64 cd)]
theorem fin5_dsts (p : Nat) (g : Nat) (of : Nat) (n : Nat) (c : Nat) (gi : Nat) (oi : Nat) (ni : Nat) (ci : Nat) (l : Nat) (nn : Nat) (k : Nat) (pod : Int) (cd : Int) (x : Unit) : dsts (lay_fin5 p g of n c gi oi ni ci l nn k pod cd x) = [18, 19, 20, 21, 22, 23, 24, 25, 26, 27, 28, 29, 30, 31] := rfl
theorem fin5_nodup (p : Nat) (g : Nat) (of : Nat) (n : Nat) (c : Nat) (gi : Nat) (oi : Nat) (ni : Nat) (ci : Nat) (l : Nat) (nn : Nat) (k : Nat) (pod : Int) (cd : Int) (x : Unit) : (dsts (lay_fin5 p g of n c gi oi ni ci l nn k pod cd x)).Nodup := by rw [fin5_dsts]; decide
section
variable (p : Nat) (g : Nat) (of : Nat) (n : Nat) (c : Nat) (gi : Nat) (oi : Nat) (ni : Nat) (ci : Nat) (l : Nat) (nn : Nat) (k : Nat) (pod : Int) (cd : Int) (X : (Unit) → Bool → World → Prop)
theorem fin5_0 (hk : k < n) (hnn : nn < ni) (t0 : Array Value) (hz : t0.size = 34) (ht0 : t0[0]? = some (.pointer (some ⟨p, 0, none⟩))) (Q : Exit → Act → World → Prop) : RStepX Tryz.prog R_fin5 (lay_fin5 p g of n c gi oi ni ci l nn k pod cd) t0 (fun x L => X x (L 13)) Q 0 := by
  intro x L o a w ho hL hd hI
  have _ := hnn
  have _ := hk
  have f0 : a.tmps[0]? = some (.pointer (some ⟨p, 0, none⟩)) := hI.from ht0 rfl
  have h : R_fin5[0]? = some R_fin5[0] := rfl
  conv at h => rhs; arg 1; whnf
  simp only [wpOp, h]
  rw [if_pos (by rfl)]
  left
  go_simp
  exact ⟨x, hI.put (fin5_nodup p g of n c gi oi ni ci l nn k pod cd _) 0 ho hd _ _ _ rfl (.inr rfl) (by intro e he; cases he; exact hz ▸ (by decide : (18 : Nat) < 34)) hI.wd⟩
theorem fin5_1 (hk : k < n) (hnn : nn < ni) (C1 : ∀ (x : (Unit)) (w : World), X x false w → Calls Tryz.prog 21 #[.pointer (some ⟨p, 0, none⟩)] w fun e w' => e = .returned (.pointer (some ⟨l, 0, none⟩)) ∧ X x false w') (t0 : Array Value) (hz : t0.size = 34) (Q : Exit → Act → World → Prop) : RStepX Tryz.prog R_fin5 (lay_fin5 p g of n c gi oi ni ci l nn k pod cd) t0 (fun x L => X x (L 13)) Q 1 := by
  intro x L o a w ho hL hd hI
  have _ := hnn
  have _ := hk
  have d0 : L 0 = true := dep_spec ho hd (k := 0) (by kernel_rfl)
  have f18 : a.tmps[18]? = some (.pointer (some ⟨p, 0, none⟩)) := hI.at 0 rfl d0
  have z13 : L 13 = false := by
    cases q13 : L 13 with
    | false => rfl
    | true =>
      have q1 : L 1 = true := hI.tr q13 (by kernel_rfl)
      rw [hL] at q1; cases q1
  have hw : X x (L 13) w := hI.wd
  rw [z13] at hw
  have h : R_fin5[1]? = some R_fin5[1] := rfl
  conv at h => rhs; arg 1; whnf
  simp only [wpOp, h]
  rw [if_pos (by rfl)]
  left
  go_simp
  refine (C1 x  w hw).mono ?_
  rintro e w' ⟨rfl, hx⟩
  have hx2 : X x (L 13) w' := by
    rw [z13]
    exact hx
  exact ⟨x, ((hI.rewd (Wd' := fun _ _ => True) (w' := w) trivial).put (w' := w) (fin5_nodup p g of n c gi oi ni ci l nn k pod cd _) 1 ho hd _ _ _ rfl (.inr rfl) (by intro e he; cases he; exact hz ▸ (by decide : (19 : Nat) < 34)) trivial).rewd hx2⟩
theorem fin5_2 (hk : k < n) (hnn : nn < ni) (t0 : Array Value) (hz : t0.size = 34) (ht0 : t0[0]? = some (.pointer (some ⟨p, 0, none⟩))) (Q : Exit → Act → World → Prop) : RStepX Tryz.prog R_fin5 (lay_fin5 p g of n c gi oi ni ci l nn k pod cd) t0 (fun x L => X x (L 13)) Q 2 := by
  intro x L o a w ho hL hd hI
  have _ := hnn
  have _ := hk
  have f0 : a.tmps[0]? = some (.pointer (some ⟨p, 0, none⟩)) := hI.from ht0 rfl
  have h : R_fin5[2]? = some R_fin5[2] := rfl
  conv at h => rhs; arg 1; whnf
  simp only [wpOp, h]
  rw [if_pos (by rfl)]
  left
  go_simp
  exact ⟨x, hI.put (fin5_nodup p g of n c gi oi ni ci l nn k pod cd _) 2 ho hd _ _ _ rfl (.inr rfl) (by intro e he; cases he; exact hz ▸ (by decide : (20 : Nat) < 34)) hI.wd⟩
theorem fin5_3 (hk : k < n) (hnn : nn < ni) (t0 : Array Value) (hz : t0.size = 34) (Q : Exit → Act → World → Prop) : RStepX Tryz.prog R_fin5 (lay_fin5 p g of n c gi oi ni ci l nn k pod cd) t0 (fun x L => X x (L 13)) Q 3 := by
  intro x L o a w ho hL hd hI
  have _ := hnn
  have _ := hk
  have d2 : L 2 = true := dep_spec ho hd (k := 2) (by kernel_rfl)
  have f20 : a.tmps[20]? = some (.pointer (some ⟨p, 0, none⟩)) := hI.at 2 rfl d2
  have h : R_fin5[3]? = some R_fin5[3] := rfl
  conv at h => rhs; arg 1; whnf
  simp only [wpOp, h]
  rw [if_pos (by rfl)]
  left
  go_simp
  exact ⟨x, hI.put (fin5_nodup p g of n c gi oi ni ci l nn k pod cd _) 3 ho hd _ _ _ rfl (.inr rfl) (by intro e he; cases he; exact hz ▸ (by decide : (21 : Nat) < 34)) hI.wd⟩
theorem fin5_4 (hk : k < n) (hnn : nn < ni) (t0 : Array Value) (hz : t0.size = 34) (Q : Exit → Act → World → Prop) : RStepX Tryz.prog R_fin5 (lay_fin5 p g of n c gi oi ni ci l nn k pod cd) t0 (fun x L => X x (L 13)) Q 4 := by
  intro x L o a w ho hL hd hI
  have _ := hnn
  have _ := hk
  have d3 : L 3 = true := dep_spec ho hd (k := 3) (by kernel_rfl)
  have f21 : a.tmps[21]? = some (.pointer (some ⟨p, 0, none⟩)) := hI.at 3 rfl d3
  have h : R_fin5[4]? = some R_fin5[4] := rfl
  conv at h => rhs; arg 1; whnf
  simp only [wpOp, h]
  rw [if_pos (by rfl)]
  left
  go_simp
  exact ⟨x, hI.put (fin5_nodup p g of n c gi oi ni ci l nn k pod cd _) 4 ho hd _ _ _ rfl (.inr rfl) (by intro e he; cases he; exact hz ▸ (by decide : (22 : Nat) < 34)) hI.wd⟩
theorem fin5_5 (hk : k < n) (hnn : nn < ni) (M5 : ∀ (x : (Unit)) (w : World), X x false w → w.cell? ⟨p, 22, none⟩ = some (.slice (some ⟨g, of, none⟩) (n) (c))) (t0 : Array Value) (hz : t0.size = 34) (Q : Exit → Act → World → Prop) : RStepX Tryz.prog R_fin5 (lay_fin5 p g of n c gi oi ni ci l nn k pod cd) t0 (fun x L => X x (L 13)) Q 5 := by
  intro x L o a w ho hL hd hI
  have _ := hnn
  have _ := hk
  have d4 : L 4 = true := dep_spec ho hd (k := 4) (by kernel_rfl)
  have f22 : a.tmps[22]? = some (.pointer (some ⟨p, 22, none⟩)) := hI.at 4 rfl d4
  have z13 : L 13 = false := by
    cases q13 : L 13 with
    | false => rfl
    | true =>
      have q12 : L 12 = true := hI.tr q13 (by kernel_rfl)
      have q11 : L 11 = true := hI.tr q12 (by kernel_rfl)
      have q10 : L 10 = true := hI.tr q11 (by kernel_rfl)
      have q5 : L 5 = true := hI.tr q10 (by kernel_rfl)
      rw [hL] at q5; cases q5
  have hw : X x (L 13) w := hI.wd
  rw [z13] at hw
  have hv := M5 x  w hw
  have h : R_fin5[5]? = some R_fin5[5] := rfl
  conv at h => rhs; arg 1; whnf
  simp only [wpOp, h]
  rw [if_pos (by rfl)]
  left
  go_simp
  exact ⟨x, hI.put (fin5_nodup p g of n c gi oi ni ci l nn k pod cd _) 5 ho hd _ _ _ rfl (.inr rfl) (by intro e he; cases he; exact hz ▸ (by decide : (23 : Nat) < 34)) hI.wd⟩
theorem fin5_6 (hk : k < n) (hnn : nn < ni) (t0 : Array Value) (hz : t0.size = 34) (ht5 : t0[5]? = some (.slice (some ⟨gi, oi, none⟩) (ni) (ci))) (Q : Exit → Act → World → Prop) : RStepX Tryz.prog R_fin5 (lay_fin5 p g of n c gi oi ni ci l nn k pod cd) t0 (fun x L => X x (L 13)) Q 6 := by
  intro x L o a w ho hL hd hI
  have _ := hnn
  have _ := hk
  have f5 : a.tmps[5]? = some (.slice (some ⟨gi, oi, none⟩) (ni) (ci)) := hI.from ht5 rfl
  have h : R_fin5[6]? = some R_fin5[6] := rfl
  conv at h => rhs; arg 1; whnf
  simp only [wpOp, h]
  rw [if_pos (by rfl)]
  left
  go_simp
  exact ⟨x, hI.put (fin5_nodup p g of n c gi oi ni ci l nn k pod cd _) 6 ho hd _ _ _ rfl (.inr rfl) (by intro e he; cases he; exact hz ▸ (by decide : (24 : Nat) < 34)) hI.wd⟩
theorem fin5_7 (hk : k < n) (hnn : nn < ni) (t0 : Array Value) (hz : t0.size = 34) (ht1 : t0[1]? = some (.int .i64 nn)) (Q : Exit → Act → World → Prop) : RStepX Tryz.prog R_fin5 (lay_fin5 p g of n c gi oi ni ci l nn k pod cd) t0 (fun x L => X x (L 13)) Q 7 := by
  intro x L o a w ho hL hd hI
  have _ := hnn
  have _ := hk
  have f1 : a.tmps[1]? = some (.int .i64 nn) := hI.from ht1 rfl
  have h : R_fin5[7]? = some R_fin5[7] := rfl
  conv at h => rhs; arg 1; whnf
  simp only [wpOp, h]
  rw [if_pos (by rfl)]
  left
  go_simp
  exact ⟨x, hI.put (fin5_nodup p g of n c gi oi ni ci l nn k pod cd _) 7 ho hd _ _ _ rfl (.inr rfl) (by intro e he; cases he; exact hz ▸ (by decide : (25 : Nat) < 34)) hI.wd⟩
theorem fin5_8 (hk : k < n) (hnn : nn < ni) (t0 : Array Value) (hz : t0.size = 34) (Q : Exit → Act → World → Prop) : RStepX Tryz.prog R_fin5 (lay_fin5 p g of n c gi oi ni ci l nn k pod cd) t0 (fun x L => X x (L 13)) Q 8 := by
  intro x L o a w ho hL hd hI
  have _ := hnn
  have _ := hk
  have d6 : L 6 = true := dep_spec ho hd (k := 6) (by kernel_rfl)
  have f24 : a.tmps[24]? = some (.slice (some ⟨gi, oi, none⟩) (ni) (ci)) := hI.at 6 rfl d6
  have d7 : L 7 = true := dep_spec ho hd (k := 7) (by kernel_rfl)
  have f25 : a.tmps[25]? = some (.int .i64 nn) := hI.at 7 rfl d7
  have h : R_fin5[8]? = some R_fin5[8] := rfl
  conv at h => rhs; arg 1; whnf
  simp only [wpOp, h]
  rw [if_pos (by rfl)]
  left
  go_simp
  exact ⟨x, hI.put (fin5_nodup p g of n c gi oi ni ci l nn k pod cd _) 8 ho hd _ _ _ rfl (.inr rfl) (by intro e he; cases he; exact hz ▸ (by decide : (26 : Nat) < 34)) hI.wd⟩
theorem fin5_9 (hk : k < n) (hnn : nn < ni) (M9 : ∀ (x : (Unit)) (w : World), X x false w → w.cell? ⟨gi, oi + nn, none⟩ = some (.int .i64 k)) (t0 : Array Value) (hz : t0.size = 34) (Q : Exit → Act → World → Prop) : RStepX Tryz.prog R_fin5 (lay_fin5 p g of n c gi oi ni ci l nn k pod cd) t0 (fun x L => X x (L 13)) Q 9 := by
  intro x L o a w ho hL hd hI
  have _ := hnn
  have _ := hk
  have d8 : L 8 = true := dep_spec ho hd (k := 8) (by kernel_rfl)
  have f26 : a.tmps[26]? = some (.pointer (some ⟨gi, oi + nn, none⟩)) := hI.at 8 rfl d8
  have z13 : L 13 = false := by
    cases q13 : L 13 with
    | false => rfl
    | true =>
      have q12 : L 12 = true := hI.tr q13 (by kernel_rfl)
      have q11 : L 11 = true := hI.tr q12 (by kernel_rfl)
      have q10 : L 10 = true := hI.tr q11 (by kernel_rfl)
      have q9 : L 9 = true := hI.tr q10 (by kernel_rfl)
      rw [hL] at q9; cases q9
  have hw : X x (L 13) w := hI.wd
  rw [z13] at hw
  have hv := M9 x  w hw
  have h : R_fin5[9]? = some R_fin5[9] := rfl
  conv at h => rhs; arg 1; whnf
  simp only [wpOp, h]
  rw [if_pos (by rfl)]
  left
  go_simp
  exact ⟨x, hI.put (fin5_nodup p g of n c gi oi ni ci l nn k pod cd _) 9 ho hd _ _ _ rfl (.inr rfl) (by intro e he; cases he; exact hz ▸ (by decide : (27 : Nat) < 34)) hI.wd⟩
theorem fin5_10 (hk : k < n) (hnn : nn < ni) (t0 : Array Value) (hz : t0.size = 34) (Q : Exit → Act → World → Prop) : RStepX Tryz.prog R_fin5 (lay_fin5 p g of n c gi oi ni ci l nn k pod cd) t0 (fun x L => X x (L 13)) Q 10 := by
  intro x L o a w ho hL hd hI
  have _ := hnn
  have _ := hk
  have d5 : L 5 = true := dep_spec ho hd (k := 5) (by kernel_rfl)
  have f23 : a.tmps[23]? = some (.slice (some ⟨g, of, none⟩) (n) (c)) := hI.at 5 rfl d5
  have d9 : L 9 = true := dep_spec ho hd (k := 9) (by kernel_rfl)
  have f27 : a.tmps[27]? = some (.int .i64 k) := hI.at 9 rfl d9
  have h : R_fin5[10]? = some R_fin5[10] := rfl
  conv at h => rhs; arg 1; whnf
  simp only [wpOp, h]
  rw [if_pos (by rfl)]
  left
  go_simp
  exact ⟨x, hI.put (fin5_nodup p g of n c gi oi ni ci l nn k pod cd _) 10 ho hd _ _ _ rfl (.inr rfl) (by intro e he; cases he; exact hz ▸ (by decide : (28 : Nat) < 34)) hI.wd⟩
theorem fin5_11 (hk : k < n) (hnn : nn < ni) (t0 : Array Value) (hz : t0.size = 34) (Q : Exit → Act → World → Prop) : RStepX Tryz.prog R_fin5 (lay_fin5 p g of n c gi oi ni ci l nn k pod cd) t0 (fun x L => X x (L 13)) Q 11 := by
  intro x L o a w ho hL hd hI
  have _ := hnn
  have _ := hk
  have d10 : L 10 = true := dep_spec ho hd (k := 10) (by kernel_rfl)
  have f28 : a.tmps[28]? = some (.pointer (some ⟨g, of + k * 4, none⟩)) := hI.at 10 rfl d10
  have h : R_fin5[11]? = some R_fin5[11] := rfl
  conv at h => rhs; arg 1; whnf
  simp only [wpOp, h]
  rw [if_pos (by rfl)]
  left
  go_simp
  exact ⟨x, hI.put (fin5_nodup p g of n c gi oi ni ci l nn k pod cd _) 11 ho hd _ _ _ rfl (.inr rfl) (by intro e he; cases he; exact hz ▸ (by decide : (29 : Nat) < 34)) hI.wd⟩
theorem fin5_12 (hk : k < n) (hnn : nn < ni) (M12 : ∀ (x : (Unit)) (w : World), X x false w → w.cell? ⟨g, of + k * 4 + 3, none⟩ = some (.int .i64 pod)) (t0 : Array Value) (hz : t0.size = 34) (Q : Exit → Act → World → Prop) : RStepX Tryz.prog R_fin5 (lay_fin5 p g of n c gi oi ni ci l nn k pod cd) t0 (fun x L => X x (L 13)) Q 12 := by
  intro x L o a w ho hL hd hI
  have _ := hnn
  have _ := hk
  have d11 : L 11 = true := dep_spec ho hd (k := 11) (by kernel_rfl)
  have f29 : a.tmps[29]? = some (.pointer (some ⟨g, of + k * 4 + 3, none⟩)) := hI.at 11 rfl d11
  have z13 : L 13 = false := by
    cases q13 : L 13 with
    | false => rfl
    | true =>
      have q12 : L 12 = true := hI.tr q13 (by kernel_rfl)
      rw [hL] at q12; cases q12
  have hw : X x (L 13) w := hI.wd
  rw [z13] at hw
  have hv := M12 x  w hw
  have h : R_fin5[12]? = some R_fin5[12] := rfl
  conv at h => rhs; arg 1; whnf
  simp only [wpOp, h]
  rw [if_pos (by rfl)]
  left
  go_simp
  exact ⟨x, hI.put (fin5_nodup p g of n c gi oi ni ci l nn k pod cd _) 12 ho hd _ _ _ rfl (.inr rfl) (by intro e he; cases he; exact hz ▸ (by decide : (30 : Nat) < 34)) hI.wd⟩
theorem fin5_13 (hk : k < n) (hnn : nn < ni) (C13 : ∀ (x : (Unit)) (w : World), X x false w → Calls Tryz.prog 54 #[.pointer (some ⟨l, 0, none⟩), .int .i64 pod] w fun e w' => e = .returned (.int .i64 cd) ∧ X x true w') (t0 : Array Value) (hz : t0.size = 34) (Q : Exit → Act → World → Prop) : RStepX Tryz.prog R_fin5 (lay_fin5 p g of n c gi oi ni ci l nn k pod cd) t0 (fun x L => X x (L 13)) Q 13 := by
  intro x L o a w ho hL hd hI
  have _ := hnn
  have _ := hk
  have d1 : L 1 = true := dep_spec ho hd (k := 1) (by kernel_rfl)
  have f19 : a.tmps[19]? = some (.pointer (some ⟨l, 0, none⟩)) := hI.at 1 rfl d1
  have d12 : L 12 = true := dep_spec ho hd (k := 12) (by kernel_rfl)
  have f30 : a.tmps[30]? = some (.int .i64 pod) := hI.at 12 rfl d12
  have z13 : L 13 = false := hL
  have hw : X x (L 13) w := hI.wd
  rw [z13] at hw
  have h : R_fin5[13]? = some R_fin5[13] := rfl
  conv at h => rhs; arg 1; whnf
  simp only [wpOp, h]
  rw [if_pos (by rfl)]
  left
  go_simp
  refine (C13 x  w hw).mono ?_
  rintro e w' ⟨rfl, hx⟩
  have hx2 : X x true w' := by
    exact hx
  exact ⟨x, ((hI.rewd (Wd' := fun _ _ => True) (w' := w) trivial).put (w' := w) (fin5_nodup p g of n c gi oi ni ci l nn k pod cd _) 13 ho hd _ _ _ rfl (.inr rfl) (by intro e he; cases he; exact hz ▸ (by decide : (31 : Nat) < 34)) trivial).rewd hx2⟩
theorem fin5_step (hk : k < n) (hnn : nn < ni) (M5 : ∀ (x : (Unit)) (w : World), X x false w → w.cell? ⟨p, 22, none⟩ = some (.slice (some ⟨g, of, none⟩) (n) (c))) (M9 : ∀ (x : (Unit)) (w : World), X x false w → w.cell? ⟨gi, oi + nn, none⟩ = some (.int .i64 k)) (M12 : ∀ (x : (Unit)) (w : World), X x false w → w.cell? ⟨g, of + k * 4 + 3, none⟩ = some (.int .i64 pod)) (C1 : ∀ (x : (Unit)) (w : World), X x false w → Calls Tryz.prog 21 #[.pointer (some ⟨p, 0, none⟩)] w fun e w' => e = .returned (.pointer (some ⟨l, 0, none⟩)) ∧ X x false w') (C13 : ∀ (x : (Unit)) (w : World), X x false w → Calls Tryz.prog 54 #[.pointer (some ⟨l, 0, none⟩), .int .i64 pod] w fun e w' => e = .returned (.int .i64 cd) ∧ X x true w') (t0 : Array Value) (hz : t0.size = 34) (ht0 : t0[0]? = some (.pointer (some ⟨p, 0, none⟩))) (ht1 : t0[1]? = some (.int .i64 nn)) (ht5 : t0[5]? = some (.slice (some ⟨gi, oi, none⟩) (ni) (ci))) (Q : Exit → Act → World → Prop) : ∀ i, i < 14 → RStepX Tryz.prog R_fin5 (lay_fin5 p g of n c gi oi ni ci l nn k pod cd) t0 (fun x L => X x (L 13)) Q i
  | 0, _ => fin5_0 p g of n c gi oi ni ci l nn k pod cd X hk hnn  t0 hz ht0 Q
  | 1, _ => fin5_1 p g of n c gi oi ni ci l nn k pod cd X hk hnn C1 t0 hz  Q
  | 2, _ => fin5_2 p g of n c gi oi ni ci l nn k pod cd X hk hnn  t0 hz ht0 Q
  | 3, _ => fin5_3 p g of n c gi oi ni ci l nn k pod cd X hk hnn  t0 hz  Q
  | 4, _ => fin5_4 p g of n c gi oi ni ci l nn k pod cd X hk hnn  t0 hz  Q
  | 5, _ => fin5_5 p g of n c gi oi ni ci l nn k pod cd X hk hnn M5 t0 hz  Q
  | 6, _ => fin5_6 p g of n c gi oi ni ci l nn k pod cd X hk hnn  t0 hz ht5 Q
  | 7, _ => fin5_7 p g of n c gi oi ni ci l nn k pod cd X hk hnn  t0 hz ht1 Q
  | 8, _ => fin5_8 p g of n c gi oi ni ci l nn k pod cd X hk hnn  t0 hz  Q
  | 9, _ => fin5_9 p g of n c gi oi ni ci l nn k pod cd X hk hnn M9 t0 hz  Q
  | 10, _ => fin5_10 p g of n c gi oi ni ci l nn k pod cd X hk hnn  t0 hz  Q
  | 11, _ => fin5_11 p g of n c gi oi ni ci l nn k pod cd X hk hnn  t0 hz  Q
  | 12, _ => fin5_12 p g of n c gi oi ni ci l nn k pod cd X hk hnn M12 t0 hz  Q
  | 13, _ => fin5_13 p g of n c gi oi ni ci l nn k pod cd X hk hnn C13 t0 hz  Q
  | k + 14, h => absurd h (by omega)
end
theorem fin5_at {ops : Array Oper} (ho : ops = R_fin5) (p : Nat) (g : Nat) (of : Nat) (n : Nat) (c : Nat) (gi : Nat) (oi : Nat) (ni : Nat) (ci : Nat) (l : Nat) (nn : Nat) (k : Nat) (pod : Int) (cd : Int) (X : (Unit) → Bool → World → Prop) (hk : k < n) (hnn : nn < ni) (M5 : ∀ (x : (Unit)) (w : World), X x false w → w.cell? ⟨p, 22, none⟩ = some (.slice (some ⟨g, of, none⟩) (n) (c))) (M9 : ∀ (x : (Unit)) (w : World), X x false w → w.cell? ⟨gi, oi + nn, none⟩ = some (.int .i64 k)) (M12 : ∀ (x : (Unit)) (w : World), X x false w → w.cell? ⟨g, of + k * 4 + 3, none⟩ = some (.int .i64 pod)) (C1 : ∀ (x : (Unit)) (w : World), X x false w → Calls Tryz.prog 21 #[.pointer (some ⟨p, 0, none⟩)] w fun e w' => e = .returned (.pointer (some ⟨l, 0, none⟩)) ∧ X x false w') (C13 : ∀ (x : (Unit)) (w : World), X x false w → Calls Tryz.prog 54 #[.pointer (some ⟨l, 0, none⟩), .int .i64 pod] w fun e w' => e = .returned (.int .i64 cd) ∧ X x true w') (t0 : Array Value) (hz : t0.size = 34) (ht0 : t0[0]? = some (.pointer (some ⟨p, 0, none⟩))) (ht1 : t0[1]? = some (.int .i64 nn)) (ht5 : t0[5]? = some (.slice (some ⟨gi, oi, none⟩) (ni) (ci))) {id : Nat} {Q : Exit → Act → World → Prop} {w : World} (x0 : (Unit)) (start : X x0 false w.drew) (fin : ∀ x w', X x true w' → Q .normal ⟨puts ((lay_fin5 p g of n c gi oi ni ci l nn k pod cd) x) t0, []⟩ w') : (Code.region id ops true).wp Tryz.prog Q ⟨t0, []⟩ w := by
  subst ho
  refine wp_regX (Wd := (fun x L => X x (L 13))) 14 rfl fin5_acyc fin5_size (fun _ => rfl) (fin5_nodup p g of n c gi oi ni ci l nn k pod cd) (fun x => by rw [fin5_dsts, hz]; rfl) x0 start (fun i hi => fin5_step p g of n c gi oi ni ci l nn k pod cd X hk hnn M5 M9 M12 C1 C13 t0 hz ht0 ht1 ht5 Q i hi) fun x L w' hl hw => fin x w' ?_
  have hw : X x (L 13) w' := hw
  rw [hl 13 (by omega)] at hw
  exact hw
end Go.Proofs.YtdgphoemjeakaaaGreatDoor.Y
