/- Package decide: the regions of Next that write its mode and its result. -/
import Derived.Test.YtdgphoemjeakaaaGreatDoorR04
import Derived.Test.YtdgphoemjeakaaaGreatDoorR08
namespace Go.Proofs.YtdgphoemjeakaaaGreatDoor.De
open Go.RowKit K P W Rg
set_option maxRecDepth 100000
noncomputable def R_r13 : Array Oper := reg Tryz.f63 13
theorem r13_size : R_r13.size = 17 := by kernel_rfl
theorem r13_acyc : acycB R_r13 = true := by kernel_rfl
noncomputable def lay_r13 (d : Nat) (hq : Nat) (now : Int) (s : Int) (m : Int) (m2 : Int) (k : Int) (n : Int) (_ : Unit) : Lay := [(some 107, .pointer (some ⟨d, 0, none⟩)),
  (some 108, .pointer (some ⟨d, 0, none⟩)),
  (some 109, .pointer (some ⟨d, 0, none⟩)),
  (some 110, .pointer (some ⟨d, 21, none⟩)),
  (some 111, .agg #[.int .i64 s, .int .i64 m]),
  (some 112, .pointer (some ⟨d, 0, none⟩)),
  (some 113, .pointer (some ⟨hq, 0, none⟩)),
  (some 114, .int .i64 now),
  (some 115, .int .i64 k),
  (some 116, .tuple #[.agg #[.int .i64 s, .int .i64 m2], .int .i64 n]),
  (some 106, .tuple #[.agg #[.int .i64 s, .int .i64 m2], .int .i64 n]),
  (some 117, .agg #[.int .i64 s, .int .i64 m2]),
  (some 118, .int .i64 n),
  (some 119, .pointer (some ⟨d, 0, none⟩)),
  (some 120, .pointer (some ⟨d, 21, none⟩)),
  (none, undef),
  (some 12, .int .i64 n)]
theorem r13_dsts (d : Nat) (hq : Nat) (now : Int) (s : Int) (m : Int) (m2 : Int) (k : Int) (n : Int) (x : Unit) : dsts (lay_r13 d hq now s m m2 k n x) = [107, 108, 109, 110, 111, 112, 113, 114, 115, 116, 106, 117, 118, 119, 120, 12] := rfl
theorem r13_nodup (d : Nat) (hq : Nat) (now : Int) (s : Int) (m : Int) (m2 : Int) (k : Int) (n : Int) (x : Unit) : (dsts (lay_r13 d hq now s m m2 k n x)).Nodup := by rw [r13_dsts]; decide
section
variable (d : Nat) (hq : Nat) (now : Int) (s : Int) (m : Int) (m2 : Int) (k : Int) (n : Int) (X : (Unit) → Bool → World → Prop)
theorem r13_0 (t0 : Array Value) (hz : t0.size = 151) (ht0 : t0[0]? = some (.pointer (some ⟨d, 0, none⟩))) (Q : Exit → Act → World → Prop) : RStepX Tryz.prog R_r13 (lay_r13 d hq now s m m2 k n) t0 (fun x L => X x (L 15)) Q 0 := by
  intro x L o a w ho hL hd hI
  have f0 : a.tmps[0]? = some (.pointer (some ⟨d, 0, none⟩)) := hI.from ht0 rfl
  have h : R_r13[0]? = some R_r13[0] := rfl
  conv at h => rhs; arg 1; whnf
  simp only [wpOp, h]
  rw [if_pos (by rfl)]
  left
  go_simp
  exact ⟨x, hI.put (r13_nodup d hq now s m m2 k n _) 0 ho hd _ _ _ rfl (.inr rfl) (by intro e he; cases he; exact hz ▸ (by decide : (107 : Nat) < 151)) hI.wd⟩
theorem r13_1 (t0 : Array Value) (hz : t0.size = 151) (ht0 : t0[0]? = some (.pointer (some ⟨d, 0, none⟩))) (Q : Exit → Act → World → Prop) : RStepX Tryz.prog R_r13 (lay_r13 d hq now s m m2 k n) t0 (fun x L => X x (L 15)) Q 1 := by
  intro x L o a w ho hL hd hI
  have f0 : a.tmps[0]? = some (.pointer (some ⟨d, 0, none⟩)) := hI.from ht0 rfl
  have h : R_r13[1]? = some R_r13[1] := rfl
  conv at h => rhs; arg 1; whnf
  simp only [wpOp, h]
  rw [if_pos (by rfl)]
  left
  go_simp
  exact ⟨x, hI.put (r13_nodup d hq now s m m2 k n _) 1 ho hd _ _ _ rfl (.inr rfl) (by intro e he; cases he; exact hz ▸ (by decide : (108 : Nat) < 151)) hI.wd⟩
theorem r13_2 (t0 : Array Value) (hz : t0.size = 151) (Q : Exit → Act → World → Prop) : RStepX Tryz.prog R_r13 (lay_r13 d hq now s m m2 k n) t0 (fun x L => X x (L 15)) Q 2 := by
  intro x L o a w ho hL hd hI
  have d1 : L 1 = true := dep_spec ho hd (k := 1) (by kernel_rfl)
  have f108 : a.tmps[108]? = some (.pointer (some ⟨d, 0, none⟩)) := hI.at 1 rfl d1
  have h : R_r13[2]? = some R_r13[2] := rfl
  conv at h => rhs; arg 1; whnf
  simp only [wpOp, h]
  rw [if_pos (by rfl)]
  left
  go_simp
  exact ⟨x, hI.put (r13_nodup d hq now s m m2 k n _) 2 ho hd _ _ _ rfl (.inr rfl) (by intro e he; cases he; exact hz ▸ (by decide : (109 : Nat) < 151)) hI.wd⟩
theorem r13_3 (t0 : Array Value) (hz : t0.size = 151) (Q : Exit → Act → World → Prop) : RStepX Tryz.prog R_r13 (lay_r13 d hq now s m m2 k n) t0 (fun x L => X x (L 15)) Q 3 := by
  intro x L o a w ho hL hd hI
  have d2 : L 2 = true := dep_spec ho hd (k := 2) (by kernel_rfl)
  have f109 : a.tmps[109]? = some (.pointer (some ⟨d, 0, none⟩)) := hI.at 2 rfl d2
  have h : R_r13[3]? = some R_r13[3] := rfl
  conv at h => rhs; arg 1; whnf
  simp only [wpOp, h]
  rw [if_pos (by rfl)]
  left
  go_simp
  exact ⟨x, hI.put (r13_nodup d hq now s m m2 k n _) 3 ho hd _ _ _ rfl (.inr rfl) (by intro e he; cases he; exact hz ▸ (by decide : (110 : Nat) < 151)) hI.wd⟩
theorem r13_4 (M4 : ∀ (x : (Unit)) (w : World), X x false w → w.cell? ⟨d, 21, none⟩ = some (.int .i64 s) ∧ w.cell? ⟨d, 22, none⟩ = some (.int .i64 m)) (t0 : Array Value) (hz : t0.size = 151) (Q : Exit → Act → World → Prop) : RStepX Tryz.prog R_r13 (lay_r13 d hq now s m m2 k n) t0 (fun x L => X x (L 15)) Q 4 := by
  intro x L o a w ho hL hd hI
  have d3 : L 3 = true := dep_spec ho hd (k := 3) (by kernel_rfl)
  have f110 : a.tmps[110]? = some (.pointer (some ⟨d, 21, none⟩)) := hI.at 3 rfl d3
  have z15 : L 15 = false := by
    cases q15 : L 15 with
    | false => rfl
    | true =>
      have q4 : L 4 = true := hI.tr q15 (by kernel_rfl)
      rw [hL] at q4; cases q4
  have hw : X x (L 15) w := hI.wd
  rw [z15] at hw
  have hv := M4 x  w hw
  obtain ⟨v0, v1⟩ := hv
  have h : R_r13[4]? = some R_r13[4] := rfl
  conv at h => rhs; arg 1; whnf
  simp only [wpOp, h]
  rw [if_pos (by rfl)]
  left
  go_simp
  exact ⟨x, hI.put (r13_nodup d hq now s m m2 k n _) 4 ho hd _ _ _ rfl (.inr rfl) (by intro e he; cases he; exact hz ▸ (by decide : (111 : Nat) < 151)) hI.wd⟩
theorem r13_5 (t0 : Array Value) (hz : t0.size = 151) (ht0 : t0[0]? = some (.pointer (some ⟨d, 0, none⟩))) (Q : Exit → Act → World → Prop) : RStepX Tryz.prog R_r13 (lay_r13 d hq now s m m2 k n) t0 (fun x L => X x (L 15)) Q 5 := by
  intro x L o a w ho hL hd hI
  have f0 : a.tmps[0]? = some (.pointer (some ⟨d, 0, none⟩)) := hI.from ht0 rfl
  have h : R_r13[5]? = some R_r13[5] := rfl
  conv at h => rhs; arg 1; whnf
  simp only [wpOp, h]
  rw [if_pos (by rfl)]
  left
  go_simp
  exact ⟨x, hI.put (r13_nodup d hq now s m m2 k n _) 5 ho hd _ _ _ rfl (.inr rfl) (by intro e he; cases he; exact hz ▸ (by decide : (112 : Nat) < 151)) hI.wd⟩
theorem r13_6 (C6 : ∀ (x : (Unit)) (w : World), X x false w → Calls Tryz.prog 88 #[.pointer (some ⟨d, 0, none⟩)] w fun e w' => e = .returned (.pointer (some ⟨hq, 0, none⟩)) ∧ X x false w') (t0 : Array Value) (hz : t0.size = 151) (Q : Exit → Act → World → Prop) : RStepX Tryz.prog R_r13 (lay_r13 d hq now s m m2 k n) t0 (fun x L => X x (L 15)) Q 6 := by
  intro x L o a w ho hL hd hI
  have d5 : L 5 = true := dep_spec ho hd (k := 5) (by kernel_rfl)
  have f112 : a.tmps[112]? = some (.pointer (some ⟨d, 0, none⟩)) := hI.at 5 rfl d5
  have z15 : L 15 = false := by
    cases q15 : L 15 with
    | false => rfl
    | true =>
      have q6 : L 6 = true := hI.tr q15 (by kernel_rfl)
      rw [hL] at q6; cases q6
  have hw : X x (L 15) w := hI.wd
  rw [z15] at hw
  have h : R_r13[6]? = some R_r13[6] := rfl
  conv at h => rhs; arg 1; whnf
  simp only [wpOp, h]
  rw [if_pos (by rfl)]
  left
  go_simp
  refine (C6 x  w hw).mono ?_
  rintro e w' ⟨rfl, hx⟩
  have hx2 : X x (L 15) w' := by
    rw [z15]
    exact hx
  exact ⟨x, ((hI.rewd (Wd' := fun _ _ => True) (w' := w) trivial).put (w' := w) (r13_nodup d hq now s m m2 k n _) 6 ho hd _ _ _ rfl (.inr rfl) (by intro e he; cases he; exact hz ▸ (by decide : (113 : Nat) < 151)) trivial).rewd hx2⟩
theorem r13_7 (t0 : Array Value) (hz : t0.size = 151) (ht1 : t0[1]? = some (.int .i64 now)) (Q : Exit → Act → World → Prop) : RStepX Tryz.prog R_r13 (lay_r13 d hq now s m m2 k n) t0 (fun x L => X x (L 15)) Q 7 := by
  intro x L o a w ho hL hd hI
  have f1 : a.tmps[1]? = some (.int .i64 now) := hI.from ht1 rfl
  have h : R_r13[7]? = some R_r13[7] := rfl
  conv at h => rhs; arg 1; whnf
  simp only [wpOp, h]
  rw [if_pos (by rfl)]
  left
  go_simp
  exact ⟨x, hI.put (r13_nodup d hq now s m m2 k n _) 7 ho hd _ _ _ rfl (.inr rfl) (by intro e he; cases he; exact hz ▸ (by decide : (114 : Nat) < 151)) hI.wd⟩
theorem r13_8 (C8 : ∀ (x : (Unit)) (w : World), X x false w → Calls Tryz.prog 102 #[.pointer (some ⟨hq, 0, none⟩), .int .i64 now] w fun e w' => e = .returned (.int .i64 k) ∧ X x false w') (t0 : Array Value) (hz : t0.size = 151) (Q : Exit → Act → World → Prop) : RStepX Tryz.prog R_r13 (lay_r13 d hq now s m m2 k n) t0 (fun x L => X x (L 15)) Q 8 := by
  intro x L o a w ho hL hd hI
  have d6 : L 6 = true := dep_spec ho hd (k := 6) (by kernel_rfl)
  have f113 : a.tmps[113]? = some (.pointer (some ⟨hq, 0, none⟩)) := hI.at 6 rfl d6
  have d7 : L 7 = true := dep_spec ho hd (k := 7) (by kernel_rfl)
  have f114 : a.tmps[114]? = some (.int .i64 now) := hI.at 7 rfl d7
  have z15 : L 15 = false := by
    cases q15 : L 15 with
    | false => rfl
    | true =>
      have q8 : L 8 = true := hI.tr q15 (by kernel_rfl)
      rw [hL] at q8; cases q8
  have hw : X x (L 15) w := hI.wd
  rw [z15] at hw
  have h : R_r13[8]? = some R_r13[8] := rfl
  conv at h => rhs; arg 1; whnf
  simp only [wpOp, h]
  rw [if_pos (by rfl)]
  left
  go_simp
  refine (C8 x  w hw).mono ?_
  rintro e w' ⟨rfl, hx⟩
  have hx2 : X x (L 15) w' := by
    rw [z15]
    exact hx
  exact ⟨x, ((hI.rewd (Wd' := fun _ _ => True) (w' := w) trivial).put (w' := w) (r13_nodup d hq now s m m2 k n _) 8 ho hd _ _ _ rfl (.inr rfl) (by intro e he; cases he; exact hz ▸ (by decide : (115 : Nat) < 151)) trivial).rewd hx2⟩
theorem r13_9 (C9 : ∀ (x : (Unit)) (w : World), X x false w → Calls Tryz.prog 101 #[.agg #[.int .i64 s, .int .i64 m], .int .i64 k] w fun e w' => e = .returned (.tuple #[.agg #[.int .i64 s, .int .i64 m2], .int .i64 n]) ∧ X x false w') (t0 : Array Value) (hz : t0.size = 151) (Q : Exit → Act → World → Prop) : RStepX Tryz.prog R_r13 (lay_r13 d hq now s m m2 k n) t0 (fun x L => X x (L 15)) Q 9 := by
  intro x L o a w ho hL hd hI
  have d4 : L 4 = true := dep_spec ho hd (k := 4) (by kernel_rfl)
  have f111 : a.tmps[111]? = some (.agg #[.int .i64 s, .int .i64 m]) := hI.at 4 rfl d4
  have d8 : L 8 = true := dep_spec ho hd (k := 8) (by kernel_rfl)
  have f115 : a.tmps[115]? = some (.int .i64 k) := hI.at 8 rfl d8
  have z15 : L 15 = false := by
    cases q15 : L 15 with
    | false => rfl
    | true =>
      have q9 : L 9 = true := hI.tr q15 (by kernel_rfl)
      rw [hL] at q9; cases q9
  have hw : X x (L 15) w := hI.wd
  rw [z15] at hw
  have h : R_r13[9]? = some R_r13[9] := rfl
  conv at h => rhs; arg 1; whnf
  simp only [wpOp, h]
  rw [if_pos (by rfl)]
  left
  go_simp
  refine (C9 x  w hw).mono ?_
  rintro e w' ⟨rfl, hx⟩
  have hx2 : X x (L 15) w' := by
    rw [z15]
    exact hx
  exact ⟨x, ((hI.rewd (Wd' := fun _ _ => True) (w' := w) trivial).put (w' := w) (r13_nodup d hq now s m m2 k n _) 9 ho hd _ _ _ rfl (.inr rfl) (by intro e he; cases he; exact hz ▸ (by decide : (116 : Nat) < 151)) trivial).rewd hx2⟩
theorem r13_10 (t0 : Array Value) (hz : t0.size = 151) (Q : Exit → Act → World → Prop) : RStepX Tryz.prog R_r13 (lay_r13 d hq now s m m2 k n) t0 (fun x L => X x (L 15)) Q 10 := by
  intro x L o a w ho hL hd hI
  have d9 : L 9 = true := dep_spec ho hd (k := 9) (by kernel_rfl)
  have f116 : a.tmps[116]? = some (.tuple #[.agg #[.int .i64 s, .int .i64 m2], .int .i64 n]) := hI.at 9 rfl d9
  have h : R_r13[10]? = some R_r13[10] := rfl
  conv at h => rhs; arg 1; whnf
  simp only [wpOp, h]
  rw [if_pos (by rfl)]
  left
  go_simp
  exact ⟨x, hI.put (r13_nodup d hq now s m m2 k n _) 10 ho hd _ _ _ rfl (.inr rfl) (by intro e he; cases he; exact hz ▸ (by decide : (106 : Nat) < 151)) hI.wd⟩
theorem r13_11 (t0 : Array Value) (hz : t0.size = 151) (Q : Exit → Act → World → Prop) : RStepX Tryz.prog R_r13 (lay_r13 d hq now s m m2 k n) t0 (fun x L => X x (L 15)) Q 11 := by
  intro x L o a w ho hL hd hI
  have d10 : L 10 = true := dep_spec ho hd (k := 10) (by kernel_rfl)
  have f106 : a.tmps[106]? = some (.tuple #[.agg #[.int .i64 s, .int .i64 m2], .int .i64 n]) := hI.at 10 rfl d10
  have h : R_r13[11]? = some R_r13[11] := rfl
  conv at h => rhs; arg 1; whnf
  simp only [wpOp, h]
  rw [if_pos (by rfl)]
  left
  go_simp
  exact ⟨x, hI.put (r13_nodup d hq now s m m2 k n _) 11 ho hd _ _ _ rfl (.inr rfl) (by intro e he; cases he; exact hz ▸ (by decide : (117 : Nat) < 151)) hI.wd⟩
theorem r13_12 (t0 : Array Value) (hz : t0.size = 151) (Q : Exit → Act → World → Prop) : RStepX Tryz.prog R_r13 (lay_r13 d hq now s m m2 k n) t0 (fun x L => X x (L 15)) Q 12 := by
  intro x L o a w ho hL hd hI
  have d10 : L 10 = true := dep_spec ho hd (k := 10) (by kernel_rfl)
  have f106 : a.tmps[106]? = some (.tuple #[.agg #[.int .i64 s, .int .i64 m2], .int .i64 n]) := hI.at 10 rfl d10
  have h : R_r13[12]? = some R_r13[12] := rfl
  conv at h => rhs; arg 1; whnf
  simp only [wpOp, h]
  rw [if_pos (by rfl)]
  left
  go_simp
  exact ⟨x, hI.put (r13_nodup d hq now s m m2 k n _) 12 ho hd _ _ _ rfl (.inr rfl) (by intro e he; cases he; exact hz ▸ (by decide : (118 : Nat) < 151)) hI.wd⟩
theorem r13_13 (t0 : Array Value) (hz : t0.size = 151) (Q : Exit → Act → World → Prop) : RStepX Tryz.prog R_r13 (lay_r13 d hq now s m m2 k n) t0 (fun x L => X x (L 15)) Q 13 := by
  intro x L o a w ho hL hd hI
  have d0 : L 0 = true := dep_spec ho hd (k := 0) (by kernel_rfl)
  have f107 : a.tmps[107]? = some (.pointer (some ⟨d, 0, none⟩)) := hI.at 0 rfl d0
  have h : R_r13[13]? = some R_r13[13] := rfl
  conv at h => rhs; arg 1; whnf
  simp only [wpOp, h]
  rw [if_pos (by rfl)]
  left
  go_simp
  exact ⟨x, hI.put (r13_nodup d hq now s m m2 k n _) 13 ho hd _ _ _ rfl (.inr rfl) (by intro e he; cases he; exact hz ▸ (by decide : (119 : Nat) < 151)) hI.wd⟩
theorem r13_14 (t0 : Array Value) (hz : t0.size = 151) (Q : Exit → Act → World → Prop) : RStepX Tryz.prog R_r13 (lay_r13 d hq now s m m2 k n) t0 (fun x L => X x (L 15)) Q 14 := by
  intro x L o a w ho hL hd hI
  have d13 : L 13 = true := dep_spec ho hd (k := 13) (by kernel_rfl)
  have f119 : a.tmps[119]? = some (.pointer (some ⟨d, 0, none⟩)) := hI.at 13 rfl d13
  have h : R_r13[14]? = some R_r13[14] := rfl
  conv at h => rhs; arg 1; whnf
  simp only [wpOp, h]
  rw [if_pos (by rfl)]
  left
  go_simp
  exact ⟨x, hI.put (r13_nodup d hq now s m m2 k n _) 14 ho hd _ _ _ rfl (.inr rfl) (by intro e he; cases he; exact hz ▸ (by decide : (120 : Nat) < 151)) hI.wd⟩
theorem r13_15 (S15 : ∀ (x : (Unit)) (w : World), X x false w → ∃ u0 u1, w.cell? ⟨d, 21, none⟩ = some u0 ∧ w.cell? ⟨d, 22, none⟩ = some u1 ∧ w.frozen? ⟨d, 21, none⟩ = false ∧ w.frozen? ⟨d, 22, none⟩ = false ∧ X x true ((w.setCell ⟨d, 21, none⟩ (.int .i64 s)).setCell ⟨d, 22, none⟩ (.int .i64 m2))) (t0 : Array Value) (hz : t0.size = 151) (Q : Exit → Act → World → Prop) : RStepX Tryz.prog R_r13 (lay_r13 d hq now s m m2 k n) t0 (fun x L => X x (L 15)) Q 15 := by
  intro x L o a w ho hL hd hI
  have _ := hz
  have d14 : L 14 = true := dep_spec ho hd (k := 14) (by kernel_rfl)
  have f120 : a.tmps[120]? = some (.pointer (some ⟨d, 21, none⟩)) := hI.at 14 rfl d14
  have d11 : L 11 = true := dep_spec ho hd (k := 11) (by kernel_rfl)
  have f117 : a.tmps[117]? = some (.agg #[.int .i64 s, .int .i64 m2]) := hI.at 11 rfl d11
  have z15 : L 15 = false := hL
  have hw : X x (L 15) w := hI.wd
  rw [z15] at hw
  obtain ⟨u0, u1, c0, c1, g0, g1, hx⟩ := S15 x  w hw
  have h : R_r13[15]? = some R_r13[15] := rfl
  conv at h => rhs; arg 1; whnf
  simp only [wpOp, h]
  rw [if_pos (by rfl)]
  left
  go_simp
  have hx2 : X x true ((w.setCell ⟨d, 21, none⟩ (.int .i64 s)).setCell ⟨d, 22, none⟩ (.int .i64 m2)) := by
    exact hx
  exact ⟨x, ((hI.rewd (Wd' := fun _ _ => True) (w' := w) trivial).put (w' := w) (r13_nodup d hq now s m m2 k n _) 15 ho hd none undef undef rfl (.inl rfl) (by intro e he; cases he) trivial).rewd hx2⟩
theorem r13_16 (t0 : Array Value) (hz : t0.size = 151) (Q : Exit → Act → World → Prop) : RStepX Tryz.prog R_r13 (lay_r13 d hq now s m m2 k n) t0 (fun x L => X x (L 15)) Q 16 := by
  intro x L o a w ho hL hd hI
  have d12 : L 12 = true := dep_spec ho hd (k := 12) (by kernel_rfl)
  have f118 : a.tmps[118]? = some (.int .i64 n) := hI.at 12 rfl d12
  have h : R_r13[16]? = some R_r13[16] := rfl
  conv at h => rhs; arg 1; whnf
  simp only [wpOp, h]
  rw [if_pos (by rfl)]
  left
  go_simp
  exact ⟨x, hI.put (r13_nodup d hq now s m m2 k n _) 16 ho hd _ _ _ rfl (.inr rfl) (by intro e he; cases he; exact hz ▸ (by decide : (12 : Nat) < 151)) hI.wd⟩
theorem r13_step (M4 : ∀ (x : (Unit)) (w : World), X x false w → w.cell? ⟨d, 21, none⟩ = some (.int .i64 s) ∧ w.cell? ⟨d, 22, none⟩ = some (.int .i64 m)) (C6 : ∀ (x : (Unit)) (w : World), X x false w → Calls Tryz.prog 88 #[.pointer (some ⟨d, 0, none⟩)] w fun e w' => e = .returned (.pointer (some ⟨hq, 0, none⟩)) ∧ X x false w') (C8 : ∀ (x : (Unit)) (w : World), X x false w → Calls Tryz.prog 102 #[.pointer (some ⟨hq, 0, none⟩), .int .i64 now] w fun e w' => e = .returned (.int .i64 k) ∧ X x false w') (C9 : ∀ (x : (Unit)) (w : World), X x false w → Calls Tryz.prog 101 #[.agg #[.int .i64 s, .int .i64 m], .int .i64 k] w fun e w' => e = .returned (.tuple #[.agg #[.int .i64 s, .int .i64 m2], .int .i64 n]) ∧ X x false w') (S15 : ∀ (x : (Unit)) (w : World), X x false w → ∃ u0 u1, w.cell? ⟨d, 21, none⟩ = some u0 ∧ w.cell? ⟨d, 22, none⟩ = some u1 ∧ w.frozen? ⟨d, 21, none⟩ = false ∧ w.frozen? ⟨d, 22, none⟩ = false ∧ X x true ((w.setCell ⟨d, 21, none⟩ (.int .i64 s)).setCell ⟨d, 22, none⟩ (.int .i64 m2))) (t0 : Array Value) (hz : t0.size = 151) (ht0 : t0[0]? = some (.pointer (some ⟨d, 0, none⟩))) (ht1 : t0[1]? = some (.int .i64 now)) (Q : Exit → Act → World → Prop) : ∀ i, i < 17 → RStepX Tryz.prog R_r13 (lay_r13 d hq now s m m2 k n) t0 (fun x L => X x (L 15)) Q i
  | 0, _ => r13_0 d hq now s m m2 k n X  t0 hz ht0 Q
  | 1, _ => r13_1 d hq now s m m2 k n X  t0 hz ht0 Q
  | 2, _ => r13_2 d hq now s m m2 k n X  t0 hz  Q
  | 3, _ => r13_3 d hq now s m m2 k n X  t0 hz  Q
  | 4, _ => r13_4 d hq now s m m2 k n X M4 t0 hz  Q
  | 5, _ => r13_5 d hq now s m m2 k n X  t0 hz ht0 Q
  | 6, _ => r13_6 d hq now s m m2 k n X C6 t0 hz  Q
  | 7, _ => r13_7 d hq now s m m2 k n X  t0 hz ht1 Q
  | 8, _ => r13_8 d hq now s m m2 k n X C8 t0 hz  Q
  | 9, _ => r13_9 d hq now s m m2 k n X C9 t0 hz  Q
  | 10, _ => r13_10 d hq now s m m2 k n X  t0 hz  Q
  | 11, _ => r13_11 d hq now s m m2 k n X  t0 hz  Q
  | 12, _ => r13_12 d hq now s m m2 k n X  t0 hz  Q
  | 13, _ => r13_13 d hq now s m m2 k n X  t0 hz  Q
  | 14, _ => r13_14 d hq now s m m2 k n X  t0 hz  Q
  | 15, _ => r13_15 d hq now s m m2 k n X S15 t0 hz  Q
  | 16, _ => r13_16 d hq now s m m2 k n X  t0 hz  Q
  | k + 17, h => absurd h (by omega)
end
theorem r13_at {ops : Array Oper} (ho : ops = R_r13) (d : Nat) (hq : Nat) (now : Int) (s : Int) (m : Int) (m2 : Int) (k : Int) (n : Int) (X : (Unit) → Bool → World → Prop) (M4 : ∀ (x : (Unit)) (w : World), X x false w → w.cell? ⟨d, 21, none⟩ = some (.int .i64 s) ∧ w.cell? ⟨d, 22, none⟩ = some (.int .i64 m)) (C6 : ∀ (x : (Unit)) (w : World), X x false w → Calls Tryz.prog 88 #[.pointer (some ⟨d, 0, none⟩)] w fun e w' => e = .returned (.pointer (some ⟨hq, 0, none⟩)) ∧ X x false w') (C8 : ∀ (x : (Unit)) (w : World), X x false w → Calls Tryz.prog 102 #[.pointer (some ⟨hq, 0, none⟩), .int .i64 now] w fun e w' => e = .returned (.int .i64 k) ∧ X x false w') (C9 : ∀ (x : (Unit)) (w : World), X x false w → Calls Tryz.prog 101 #[.agg #[.int .i64 s, .int .i64 m], .int .i64 k] w fun e w' => e = .returned (.tuple #[.agg #[.int .i64 s, .int .i64 m2], .int .i64 n]) ∧ X x false w') (S15 : ∀ (x : (Unit)) (w : World), X x false w → ∃ u0 u1, w.cell? ⟨d, 21, none⟩ = some u0 ∧ w.cell? ⟨d, 22, none⟩ = some u1 ∧ w.frozen? ⟨d, 21, none⟩ = false ∧ w.frozen? ⟨d, 22, none⟩ = false ∧ X x true ((w.setCell ⟨d, 21, none⟩ (.int .i64 s)).setCell ⟨d, 22, none⟩ (.int .i64 m2))) (t0 : Array Value) (hz : t0.size = 151) (ht0 : t0[0]? = some (.pointer (some ⟨d, 0, none⟩))) (ht1 : t0[1]? = some (.int .i64 now)) {id : Nat} {Q : Exit → Act → World → Prop} {w : World} (x0 : (Unit)) (start : X x0 false w.drew) (fin : ∀ x w', X x true w' → Q .normal ⟨puts ((lay_r13 d hq now s m m2 k n) x) t0, []⟩ w') : (Code.region id ops true).wp Tryz.prog Q ⟨t0, []⟩ w := by
  subst ho
  refine wp_regX (Wd := (fun x L => X x (L 15))) 17 rfl r13_acyc r13_size (fun _ => rfl) (r13_nodup d hq now s m m2 k n) (fun x => by rw [r13_dsts, hz]; rfl) x0 start (fun i hi => r13_step d hq now s m m2 k n X M4 C6 C8 C9 S15 t0 hz ht0 ht1 Q i hi) fun x L w' hl hw => fin x w' ?_
  have hw : X x (L 15) w' := hw
  rw [hl 15 (by omega)] at hw
  exact hw
noncomputable def R_r15 : Array Oper := reg Tryz.f63 15
theorem r15_size : R_r15.size = 19 := by kernel_rfl
theorem r15_acyc : acycB R_r15 = true := by kernel_rfl
noncomputable def lay_r15 (bu : Int) (ini : Int) (li : Int) (rd : Int) (d : Nat) (_B : Nat) (now : Int) (ready : Int) (st : Int) (qu : Int) (n : Int) (s : Int) (m : Int) (pn : Bool) (ex : Int) (_ : Unit) : Lay := [(some 134, .int .i64 now),
  (some 135, .int .i64 st),
  (some 136, .int .i64 qu),
  (some 137, .int .i64 n),
  (some 138, .pointer (some ⟨d, 0, none⟩)),
  (some 139, .pointer (some ⟨d, 0, none⟩)),
  (some 140, .pointer (some ⟨d, 21, none⟩)),
  (some 141, .agg #[.int .i64 s, .int .i64 m]),
  (some 142, .bool pn),
  (some 143, .pointer (some ⟨d, 0, none⟩)),
  (some 144, .pointer (some ⟨d, 0, none⟩)),
  (some 145, .pointer (some ⟨d, 0, none⟩)),
  (some 146, .agg (ca bu ini li rd)),
  (some 147, .int .i64 ready),
  (some 148, .int .i64 qu),
  (some 149, .int .i64 ex),
  (some 150, .agg #[.int .i64 now, .int .i64 st, .int .i64 qu, .int .i64 n, .bool pn, .int .i64 ex]),
  (none, undef),
  (some 7, .int .i64 0)]
theorem r15_dsts (bu : Int) (ini : Int) (li : Int) (rd : Int) (d : Nat) (B : Nat) (now : Int) (ready : Int) (st : Int) (qu : Int) (n : Int) (s : Int) (m : Int) (pn : Bool) (ex : Int) (x : Unit) : dsts (lay_r15 bu ini li rd d B now ready st qu n s m pn ex x) = [134, 135, 136, 137, 138, 139, 140, 141, 142, 143, 144, 145, 146, 147, 148, 149, 150, 7] := rfl
theorem r15_nodup (bu : Int) (ini : Int) (li : Int) (rd : Int) (d : Nat) (B : Nat) (now : Int) (ready : Int) (st : Int) (qu : Int) (n : Int) (s : Int) (m : Int) (pn : Bool) (ex : Int) (x : Unit) : (dsts (lay_r15 bu ini li rd d B now ready st qu n s m pn ex x)).Nodup := by rw [r15_dsts]; decide
section
variable (bu : Int) (ini : Int) (li : Int) (rd : Int) (d : Nat) (B : Nat) (now : Int) (ready : Int) (st : Int) (qu : Int) (n : Int) (s : Int) (m : Int) (pn : Bool) (ex : Int) (X : (Unit) → Bool → World → Prop)
theorem r15_0 (t0 : Array Value) (hz : t0.size = 151) (ht1 : t0[1]? = some (.int .i64 now)) (Q : Exit → Act → World → Prop) : RStepX Tryz.prog R_r15 (lay_r15 bu ini li rd d B now ready st qu n s m pn ex) t0 (fun x L => X x (L 17)) Q 0 := by
  intro x L o a w ho hL hd hI
  have f1 : a.tmps[1]? = some (.int .i64 now) := hI.from ht1 rfl
  have h : R_r15[0]? = some R_r15[0] := rfl
  conv at h => rhs; arg 1; whnf
  simp only [wpOp, h]
  rw [if_pos (by rfl)]
  left
  go_simp
  exact ⟨x, hI.put (r15_nodup bu ini li rd d B now ready st qu n s m pn ex _) 0 ho hd _ _ _ rfl (.inr rfl) (by intro e he; cases he; exact hz ▸ (by decide : (134 : Nat) < 151)) hI.wd⟩
theorem r15_1 (t0 : Array Value) (hz : t0.size = 151) (ht8 : t0[8]? = some (.int .i64 st)) (Q : Exit → Act → World → Prop) : RStepX Tryz.prog R_r15 (lay_r15 bu ini li rd d B now ready st qu n s m pn ex) t0 (fun x L => X x (L 17)) Q 1 := by
  intro x L o a w ho hL hd hI
  have f8 : a.tmps[8]? = some (.int .i64 st) := hI.from ht8 rfl
  have h : R_r15[1]? = some R_r15[1] := rfl
  conv at h => rhs; arg 1; whnf
  simp only [wpOp, h]
  rw [if_pos (by rfl)]
  left
  go_simp
  exact ⟨x, hI.put (r15_nodup bu ini li rd d B now ready st qu n s m pn ex _) 1 ho hd _ _ _ rfl (.inr rfl) (by intro e he; cases he; exact hz ▸ (by decide : (135 : Nat) < 151)) hI.wd⟩
theorem r15_2 (t0 : Array Value) (hz : t0.size = 151) (ht9 : t0[9]? = some (.int .i64 qu)) (Q : Exit → Act → World → Prop) : RStepX Tryz.prog R_r15 (lay_r15 bu ini li rd d B now ready st qu n s m pn ex) t0 (fun x L => X x (L 17)) Q 2 := by
  intro x L o a w ho hL hd hI
  have f9 : a.tmps[9]? = some (.int .i64 qu) := hI.from ht9 rfl
  have h : R_r15[2]? = some R_r15[2] := rfl
  conv at h => rhs; arg 1; whnf
  simp only [wpOp, h]
  rw [if_pos (by rfl)]
  left
  go_simp
  exact ⟨x, hI.put (r15_nodup bu ini li rd d B now ready st qu n s m pn ex _) 2 ho hd _ _ _ rfl (.inr rfl) (by intro e he; cases he; exact hz ▸ (by decide : (136 : Nat) < 151)) hI.wd⟩
theorem r15_3 (t0 : Array Value) (hz : t0.size = 151) (ht12 : t0[12]? = some (.int .i64 n)) (Q : Exit → Act → World → Prop) : RStepX Tryz.prog R_r15 (lay_r15 bu ini li rd d B now ready st qu n s m pn ex) t0 (fun x L => X x (L 17)) Q 3 := by
  intro x L o a w ho hL hd hI
  have f12 : a.tmps[12]? = some (.int .i64 n) := hI.from ht12 rfl
  have h : R_r15[3]? = some R_r15[3] := rfl
  conv at h => rhs; arg 1; whnf
  simp only [wpOp, h]
  rw [if_pos (by rfl)]
  left
  go_simp
  exact ⟨x, hI.put (r15_nodup bu ini li rd d B now ready st qu n s m pn ex _) 3 ho hd _ _ _ rfl (.inr rfl) (by intro e he; cases he; exact hz ▸ (by decide : (137 : Nat) < 151)) hI.wd⟩
theorem r15_4 (t0 : Array Value) (hz : t0.size = 151) (ht0 : t0[0]? = some (.pointer (some ⟨d, 0, none⟩))) (Q : Exit → Act → World → Prop) : RStepX Tryz.prog R_r15 (lay_r15 bu ini li rd d B now ready st qu n s m pn ex) t0 (fun x L => X x (L 17)) Q 4 := by
  intro x L o a w ho hL hd hI
  have f0 : a.tmps[0]? = some (.pointer (some ⟨d, 0, none⟩)) := hI.from ht0 rfl
  have h : R_r15[4]? = some R_r15[4] := rfl
  conv at h => rhs; arg 1; whnf
  simp only [wpOp, h]
  rw [if_pos (by rfl)]
  left
  go_simp
  exact ⟨x, hI.put (r15_nodup bu ini li rd d B now ready st qu n s m pn ex _) 4 ho hd _ _ _ rfl (.inr rfl) (by intro e he; cases he; exact hz ▸ (by decide : (138 : Nat) < 151)) hI.wd⟩
theorem r15_5 (t0 : Array Value) (hz : t0.size = 151) (Q : Exit → Act → World → Prop) : RStepX Tryz.prog R_r15 (lay_r15 bu ini li rd d B now ready st qu n s m pn ex) t0 (fun x L => X x (L 17)) Q 5 := by
  intro x L o a w ho hL hd hI
  have d4 : L 4 = true := dep_spec ho hd (k := 4) (by kernel_rfl)
  have f138 : a.tmps[138]? = some (.pointer (some ⟨d, 0, none⟩)) := hI.at 4 rfl d4
  have h : R_r15[5]? = some R_r15[5] := rfl
  conv at h => rhs; arg 1; whnf
  simp only [wpOp, h]
  rw [if_pos (by rfl)]
  left
  go_simp
  exact ⟨x, hI.put (r15_nodup bu ini li rd d B now ready st qu n s m pn ex _) 5 ho hd _ _ _ rfl (.inr rfl) (by intro e he; cases he; exact hz ▸ (by decide : (139 : Nat) < 151)) hI.wd⟩
theorem r15_6 (t0 : Array Value) (hz : t0.size = 151) (Q : Exit → Act → World → Prop) : RStepX Tryz.prog R_r15 (lay_r15 bu ini li rd d B now ready st qu n s m pn ex) t0 (fun x L => X x (L 17)) Q 6 := by
  intro x L o a w ho hL hd hI
  have d5 : L 5 = true := dep_spec ho hd (k := 5) (by kernel_rfl)
  have f139 : a.tmps[139]? = some (.pointer (some ⟨d, 0, none⟩)) := hI.at 5 rfl d5
  have h : R_r15[6]? = some R_r15[6] := rfl
  conv at h => rhs; arg 1; whnf
  simp only [wpOp, h]
  rw [if_pos (by rfl)]
  left
  go_simp
  exact ⟨x, hI.put (r15_nodup bu ini li rd d B now ready st qu n s m pn ex _) 6 ho hd _ _ _ rfl (.inr rfl) (by intro e he; cases he; exact hz ▸ (by decide : (140 : Nat) < 151)) hI.wd⟩
theorem r15_7 (M7 : ∀ (x : (Unit)) (w : World), X x false w → w.cell? ⟨d, 21, none⟩ = some (.int .i64 s) ∧ w.cell? ⟨d, 22, none⟩ = some (.int .i64 m)) (t0 : Array Value) (hz : t0.size = 151) (Q : Exit → Act → World → Prop) : RStepX Tryz.prog R_r15 (lay_r15 bu ini li rd d B now ready st qu n s m pn ex) t0 (fun x L => X x (L 17)) Q 7 := by
  intro x L o a w ho hL hd hI
  have d6 : L 6 = true := dep_spec ho hd (k := 6) (by kernel_rfl)
  have f140 : a.tmps[140]? = some (.pointer (some ⟨d, 21, none⟩)) := hI.at 6 rfl d6
  have z17 : L 17 = false := by
    cases q17 : L 17 with
    | false => rfl
    | true =>
      have q7 : L 7 = true := hI.tr q17 (by kernel_rfl)
      rw [hL] at q7; cases q7
  have hw : X x (L 17) w := hI.wd
  rw [z17] at hw
  have hv := M7 x  w hw
  obtain ⟨v0, v1⟩ := hv
  have h : R_r15[7]? = some R_r15[7] := rfl
  conv at h => rhs; arg 1; whnf
  simp only [wpOp, h]
  rw [if_pos (by rfl)]
  left
  go_simp
  exact ⟨x, hI.put (r15_nodup bu ini li rd d B now ready st qu n s m pn ex _) 7 ho hd _ _ _ rfl (.inr rfl) (by intro e he; cases he; exact hz ▸ (by decide : (141 : Nat) < 151)) hI.wd⟩
theorem r15_8 (C8 : ∀ (x : (Unit)) (w : World), X x false w → Calls Tryz.prog 99 #[.agg #[.int .i64 s, .int .i64 m]] w fun e w' => e = .returned (.bool pn) ∧ X x false w') (t0 : Array Value) (hz : t0.size = 151) (Q : Exit → Act → World → Prop) : RStepX Tryz.prog R_r15 (lay_r15 bu ini li rd d B now ready st qu n s m pn ex) t0 (fun x L => X x (L 17)) Q 8 := by
  intro x L o a w ho hL hd hI
  have d7 : L 7 = true := dep_spec ho hd (k := 7) (by kernel_rfl)
  have f141 : a.tmps[141]? = some (.agg #[.int .i64 s, .int .i64 m]) := hI.at 7 rfl d7
  have z17 : L 17 = false := by
    cases q17 : L 17 with
    | false => rfl
    | true =>
      have q8 : L 8 = true := hI.tr q17 (by kernel_rfl)
      rw [hL] at q8; cases q8
  have hw : X x (L 17) w := hI.wd
  rw [z17] at hw
  have h : R_r15[8]? = some R_r15[8] := rfl
  conv at h => rhs; arg 1; whnf
  simp only [wpOp, h]
  rw [if_pos (by rfl)]
  left
  go_simp
  refine (C8 x  w hw).mono ?_
  rintro e w' ⟨rfl, hx⟩
  have hx2 : X x (L 17) w' := by
    rw [z17]
    exact hx
  exact ⟨x, ((hI.rewd (Wd' := fun _ _ => True) (w' := w) trivial).put (w' := w) (r15_nodup bu ini li rd d B now ready st qu n s m pn ex _) 8 ho hd _ _ _ rfl (.inr rfl) (by intro e he; cases he; exact hz ▸ (by decide : (142 : Nat) < 151)) trivial).rewd hx2⟩
theorem r15_9 (t0 : Array Value) (hz : t0.size = 151) (ht0 : t0[0]? = some (.pointer (some ⟨d, 0, none⟩))) (Q : Exit → Act → World → Prop) : RStepX Tryz.prog R_r15 (lay_r15 bu ini li rd d B now ready st qu n s m pn ex) t0 (fun x L => X x (L 17)) Q 9 := by
  intro x L o a w ho hL hd hI
  have f0 : a.tmps[0]? = some (.pointer (some ⟨d, 0, none⟩)) := hI.from ht0 rfl
  have h : R_r15[9]? = some R_r15[9] := rfl
  conv at h => rhs; arg 1; whnf
  simp only [wpOp, h]
  rw [if_pos (by rfl)]
  left
  go_simp
  exact ⟨x, hI.put (r15_nodup bu ini li rd d B now ready st qu n s m pn ex _) 9 ho hd _ _ _ rfl (.inr rfl) (by intro e he; cases he; exact hz ▸ (by decide : (143 : Nat) < 151)) hI.wd⟩
theorem r15_10 (t0 : Array Value) (hz : t0.size = 151) (Q : Exit → Act → World → Prop) : RStepX Tryz.prog R_r15 (lay_r15 bu ini li rd d B now ready st qu n s m pn ex) t0 (fun x L => X x (L 17)) Q 10 := by
  intro x L o a w ho hL hd hI
  have d9 : L 9 = true := dep_spec ho hd (k := 9) (by kernel_rfl)
  have f143 : a.tmps[143]? = some (.pointer (some ⟨d, 0, none⟩)) := hI.at 9 rfl d9
  have h : R_r15[10]? = some R_r15[10] := rfl
  conv at h => rhs; arg 1; whnf
  simp only [wpOp, h]
  rw [if_pos (by rfl)]
  left
  go_simp
  exact ⟨x, hI.put (r15_nodup bu ini li rd d B now ready st qu n s m pn ex _) 10 ho hd _ _ _ rfl (.inr rfl) (by intro e he; cases he; exact hz ▸ (by decide : (144 : Nat) < 151)) hI.wd⟩
theorem r15_11 (t0 : Array Value) (hz : t0.size = 151) (Q : Exit → Act → World → Prop) : RStepX Tryz.prog R_r15 (lay_r15 bu ini li rd d B now ready st qu n s m pn ex) t0 (fun x L => X x (L 17)) Q 11 := by
  intro x L o a w ho hL hd hI
  have d10 : L 10 = true := dep_spec ho hd (k := 10) (by kernel_rfl)
  have f144 : a.tmps[144]? = some (.pointer (some ⟨d, 0, none⟩)) := hI.at 10 rfl d10
  have h : R_r15[11]? = some R_r15[11] := rfl
  conv at h => rhs; arg 1; whnf
  simp only [wpOp, h]
  rw [if_pos (by rfl)]
  left
  go_simp
  exact ⟨x, hI.put (r15_nodup bu ini li rd d B now ready st qu n s m pn ex _) 11 ho hd _ _ _ rfl (.inr rfl) (by intro e he; cases he; exact hz ▸ (by decide : (145 : Nat) < 151)) hI.wd⟩
theorem r15_12 (M12 : ∀ (x : (Unit)) (w : World), X x false w → rowOf w d (0) 20 = some (.agg (ca bu ini li rd))) (t0 : Array Value) (hz : t0.size = 151) (Q : Exit → Act → World → Prop) : RStepX Tryz.prog R_r15 (lay_r15 bu ini li rd d B now ready st qu n s m pn ex) t0 (fun x L => X x (L 17)) Q 12 := by
  intro x L o a w ho hL hd hI
  have d11 : L 11 = true := dep_spec ho hd (k := 11) (by kernel_rfl)
  have f145 : a.tmps[145]? = some (.pointer (some ⟨d, 0, none⟩)) := hI.at 11 rfl d11
  have z17 : L 17 = false := by
    cases q17 : L 17 with
    | false => rfl
    | true =>
      have q12 : L 12 = true := hI.tr q17 (by kernel_rfl)
      rw [hL] at q12; cases q12
  have hw : X x (L 17) w := hI.wd
  rw [z17] at hw
  have hv := M12 x  w hw
  have h : R_r15[12]? = some R_r15[12] := rfl
  conv at h => rhs; arg 1; whnf
  simp only [wpOp, h]
  rw [if_pos (by rfl)]
  left
  go_simp
  exact ⟨x, hI.put (r15_nodup bu ini li rd d B now ready st qu n s m pn ex _) 12 ho hd _ _ _ rfl (.inr rfl) (by intro e he; cases he; exact hz ▸ (by decide : (146 : Nat) < 151)) hI.wd⟩
theorem r15_13 (t0 : Array Value) (hz : t0.size = 151) (ht2 : t0[2]? = some (.int .i64 ready)) (Q : Exit → Act → World → Prop) : RStepX Tryz.prog R_r15 (lay_r15 bu ini li rd d B now ready st qu n s m pn ex) t0 (fun x L => X x (L 17)) Q 13 := by
  intro x L o a w ho hL hd hI
  have f2 : a.tmps[2]? = some (.int .i64 ready) := hI.from ht2 rfl
  have h : R_r15[13]? = some R_r15[13] := rfl
  conv at h => rhs; arg 1; whnf
  simp only [wpOp, h]
  rw [if_pos (by rfl)]
  left
  go_simp
  exact ⟨x, hI.put (r15_nodup bu ini li rd d B now ready st qu n s m pn ex _) 13 ho hd _ _ _ rfl (.inr rfl) (by intro e he; cases he; exact hz ▸ (by decide : (147 : Nat) < 151)) hI.wd⟩
theorem r15_14 (t0 : Array Value) (hz : t0.size = 151) (ht9 : t0[9]? = some (.int .i64 qu)) (Q : Exit → Act → World → Prop) : RStepX Tryz.prog R_r15 (lay_r15 bu ini li rd d B now ready st qu n s m pn ex) t0 (fun x L => X x (L 17)) Q 14 := by
  intro x L o a w ho hL hd hI
  have f9 : a.tmps[9]? = some (.int .i64 qu) := hI.from ht9 rfl
  have h : R_r15[14]? = some R_r15[14] := rfl
  conv at h => rhs; arg 1; whnf
  simp only [wpOp, h]
  rw [if_pos (by rfl)]
  left
  go_simp
  exact ⟨x, hI.put (r15_nodup bu ini li rd d B now ready st qu n s m pn ex _) 14 ho hd _ _ _ rfl (.inr rfl) (by intro e he; cases he; exact hz ▸ (by decide : (148 : Nat) < 151)) hI.wd⟩
theorem r15_15 (C15 : ∀ (x : (Unit)) (w : World), X x false w → Calls Tryz.prog 25 #[.agg (ca bu ini li rd), .int .i64 ready, .int .i64 qu] w fun e w' => e = .returned (.int .i64 ex) ∧ X x false w') (t0 : Array Value) (hz : t0.size = 151) (Q : Exit → Act → World → Prop) : RStepX Tryz.prog R_r15 (lay_r15 bu ini li rd d B now ready st qu n s m pn ex) t0 (fun x L => X x (L 17)) Q 15 := by
  intro x L o a w ho hL hd hI
  have d12 : L 12 = true := dep_spec ho hd (k := 12) (by kernel_rfl)
  have f146 : a.tmps[146]? = some (.agg (ca bu ini li rd)) := hI.at 12 rfl d12
  have d13 : L 13 = true := dep_spec ho hd (k := 13) (by kernel_rfl)
  have f147 : a.tmps[147]? = some (.int .i64 ready) := hI.at 13 rfl d13
  have d14 : L 14 = true := dep_spec ho hd (k := 14) (by kernel_rfl)
  have f148 : a.tmps[148]? = some (.int .i64 qu) := hI.at 14 rfl d14
  have z17 : L 17 = false := by
    cases q17 : L 17 with
    | false => rfl
    | true =>
      have q15 : L 15 = true := hI.tr q17 (by kernel_rfl)
      rw [hL] at q15; cases q15
  have hw : X x (L 17) w := hI.wd
  rw [z17] at hw
  have h : R_r15[15]? = some R_r15[15] := rfl
  conv at h => rhs; arg 1; whnf
  simp only [wpOp, h]
  rw [if_pos (by rfl)]
  left
  go_simp
  refine (C15 x  w hw).mono ?_
  rintro e w' ⟨rfl, hx⟩
  have hx2 : X x (L 17) w' := by
    rw [z17]
    exact hx
  exact ⟨x, ((hI.rewd (Wd' := fun _ _ => True) (w' := w) trivial).put (w' := w) (r15_nodup bu ini li rd d B now ready st qu n s m pn ex _) 15 ho hd _ _ _ rfl (.inr rfl) (by intro e he; cases he; exact hz ▸ (by decide : (149 : Nat) < 151)) trivial).rewd hx2⟩
theorem r15_16 (t0 : Array Value) (hz : t0.size = 151) (Q : Exit → Act → World → Prop) : RStepX Tryz.prog R_r15 (lay_r15 bu ini li rd d B now ready st qu n s m pn ex) t0 (fun x L => X x (L 17)) Q 16 := by
  intro x L o a w ho hL hd hI
  have d0 : L 0 = true := dep_spec ho hd (k := 0) (by kernel_rfl)
  have f134 : a.tmps[134]? = some (.int .i64 now) := hI.at 0 rfl d0
  have d1 : L 1 = true := dep_spec ho hd (k := 1) (by kernel_rfl)
  have f135 : a.tmps[135]? = some (.int .i64 st) := hI.at 1 rfl d1
  have d2 : L 2 = true := dep_spec ho hd (k := 2) (by kernel_rfl)
  have f136 : a.tmps[136]? = some (.int .i64 qu) := hI.at 2 rfl d2
  have d3 : L 3 = true := dep_spec ho hd (k := 3) (by kernel_rfl)
  have f137 : a.tmps[137]? = some (.int .i64 n) := hI.at 3 rfl d3
  have d8 : L 8 = true := dep_spec ho hd (k := 8) (by kernel_rfl)
  have f142 : a.tmps[142]? = some (.bool pn) := hI.at 8 rfl d8
  have d15 : L 15 = true := dep_spec ho hd (k := 15) (by kernel_rfl)
  have f149 : a.tmps[149]? = some (.int .i64 ex) := hI.at 15 rfl d15
  have h : R_r15[16]? = some R_r15[16] := rfl
  conv at h => rhs; arg 1; whnf
  simp only [wpOp, h]
  rw [if_pos (by rfl)]
  left
  go_simp
  exact ⟨x, hI.put (r15_nodup bu ini li rd d B now ready st qu n s m pn ex _) 16 ho hd _ _ _ rfl (.inr rfl) (by intro e he; cases he; exact hz ▸ (by decide : (150 : Nat) < 151)) hI.wd⟩
theorem r15_17 (S17 : ∀ (x : (Unit)) (w : World), X x false w → ∃ u0 u1 u2 u3 u4 u5, w.cell? ⟨B, 0, none⟩ = some u0 ∧ w.cell? ⟨B, 1, none⟩ = some u1 ∧ w.cell? ⟨B, 2, none⟩ = some u2 ∧ w.cell? ⟨B, 3, none⟩ = some u3 ∧ w.cell? ⟨B, 4, none⟩ = some u4 ∧ w.cell? ⟨B, 5, none⟩ = some u5 ∧ w.frozen? ⟨B, 0, none⟩ = false ∧ w.frozen? ⟨B, 1, none⟩ = false ∧ w.frozen? ⟨B, 2, none⟩ = false ∧ w.frozen? ⟨B, 3, none⟩ = false ∧ w.frozen? ⟨B, 4, none⟩ = false ∧ w.frozen? ⟨B, 5, none⟩ = false ∧ X x true ((((((w.setCell ⟨B, 0, none⟩ (.int .i64 now)).setCell ⟨B, 1, none⟩ (.int .i64 st)).setCell ⟨B, 2, none⟩ (.int .i64 qu)).setCell ⟨B, 3, none⟩ (.int .i64 n)).setCell ⟨B, 4, none⟩ (.bool pn)).setCell ⟨B, 5, none⟩ (.int .i64 ex))) (t0 : Array Value) (hz : t0.size = 151) (ht6 : t0[6]? = some (.pointer (some ⟨B, 0, none⟩))) (Q : Exit → Act → World → Prop) : RStepX Tryz.prog R_r15 (lay_r15 bu ini li rd d B now ready st qu n s m pn ex) t0 (fun x L => X x (L 17)) Q 17 := by
  intro x L o a w ho hL hd hI
  have _ := hz
  have f6 : a.tmps[6]? = some (.pointer (some ⟨B, 0, none⟩)) := hI.from ht6 rfl
  have d16 : L 16 = true := dep_spec ho hd (k := 16) (by kernel_rfl)
  have f150 : a.tmps[150]? = some (.agg #[.int .i64 now, .int .i64 st, .int .i64 qu, .int .i64 n, .bool pn, .int .i64 ex]) := hI.at 16 rfl d16
  have z17 : L 17 = false := hL
  have hw : X x (L 17) w := hI.wd
  rw [z17] at hw
  obtain ⟨u0, u1, u2, u3, u4, u5, c0, c1, c2, c3, c4, c5, g0, g1, g2, g3, g4, g5, hx⟩ := S17 x  w hw
  have h : R_r15[17]? = some R_r15[17] := rfl
  conv at h => rhs; arg 1; whnf
  simp only [wpOp, h]
  rw [if_pos (by rfl)]
  left
  go_simp
  have hx2 : X x true ((((((w.setCell ⟨B, 0, none⟩ (.int .i64 now)).setCell ⟨B, 1, none⟩ (.int .i64 st)).setCell ⟨B, 2, none⟩ (.int .i64 qu)).setCell ⟨B, 3, none⟩ (.int .i64 n)).setCell ⟨B, 4, none⟩ (.bool pn)).setCell ⟨B, 5, none⟩ (.int .i64 ex)) := by
    exact hx
  exact ⟨x, ((hI.rewd (Wd' := fun _ _ => True) (w' := w) trivial).put (w' := w) (r15_nodup bu ini li rd d B now ready st qu n s m pn ex _) 17 ho hd none undef undef rfl (.inl rfl) (by intro e he; cases he) trivial).rewd hx2⟩
theorem r15_18 (t0 : Array Value) (hz : t0.size = 151) (Q : Exit → Act → World → Prop) : RStepX Tryz.prog R_r15 (lay_r15 bu ini li rd d B now ready st qu n s m pn ex) t0 (fun x L => X x (L 17)) Q 18 := by
  intro x L o a w ho hL hd hI
  have h : R_r15[18]? = some R_r15[18] := rfl
  conv at h => rhs; arg 1; whnf
  simp only [wpOp, h]
  rw [if_pos (by rfl)]
  left
  go_simp
  exact ⟨x, hI.put (r15_nodup bu ini li rd d B now ready st qu n s m pn ex _) 18 ho hd _ _ _ rfl (.inr rfl) (by intro e he; cases he; exact hz ▸ (by decide : (7 : Nat) < 151)) hI.wd⟩
theorem r15_step (M7 : ∀ (x : (Unit)) (w : World), X x false w → w.cell? ⟨d, 21, none⟩ = some (.int .i64 s) ∧ w.cell? ⟨d, 22, none⟩ = some (.int .i64 m)) (M12 : ∀ (x : (Unit)) (w : World), X x false w → rowOf w d (0) 20 = some (.agg (ca bu ini li rd))) (C8 : ∀ (x : (Unit)) (w : World), X x false w → Calls Tryz.prog 99 #[.agg #[.int .i64 s, .int .i64 m]] w fun e w' => e = .returned (.bool pn) ∧ X x false w') (C15 : ∀ (x : (Unit)) (w : World), X x false w → Calls Tryz.prog 25 #[.agg (ca bu ini li rd), .int .i64 ready, .int .i64 qu] w fun e w' => e = .returned (.int .i64 ex) ∧ X x false w') (S17 : ∀ (x : (Unit)) (w : World), X x false w → ∃ u0 u1 u2 u3 u4 u5, w.cell? ⟨B, 0, none⟩ = some u0 ∧ w.cell? ⟨B, 1, none⟩ = some u1 ∧ w.cell? ⟨B, 2, none⟩ = some u2 ∧ w.cell? ⟨B, 3, none⟩ = some u3 ∧ w.cell? ⟨B, 4, none⟩ = some u4 ∧ w.cell? ⟨B, 5, none⟩ = some u5 ∧ w.frozen? ⟨B, 0, none⟩ = false ∧ w.frozen? ⟨B, 1, none⟩ = false ∧ w.frozen? ⟨B, 2, none⟩ = false ∧ w.frozen? ⟨B, 3, none⟩ = false ∧ w.frozen? ⟨B, 4, none⟩ = false ∧ w.frozen? ⟨B, 5, none⟩ = false ∧ X x true ((((((w.setCell ⟨B, 0, none⟩ (.int .i64 now)).setCell ⟨B, 1, none⟩ (.int .i64 st)).setCell ⟨B, 2, none⟩ (.int .i64 qu)).setCell ⟨B, 3, none⟩ (.int .i64 n)).setCell ⟨B, 4, none⟩ (.bool pn)).setCell ⟨B, 5, none⟩ (.int .i64 ex))) (t0 : Array Value) (hz : t0.size = 151) (ht0 : t0[0]? = some (.pointer (some ⟨d, 0, none⟩))) (ht1 : t0[1]? = some (.int .i64 now)) (ht2 : t0[2]? = some (.int .i64 ready)) (ht6 : t0[6]? = some (.pointer (some ⟨B, 0, none⟩))) (ht8 : t0[8]? = some (.int .i64 st)) (ht9 : t0[9]? = some (.int .i64 qu)) (ht12 : t0[12]? = some (.int .i64 n)) (Q : Exit → Act → World → Prop) : ∀ i, i < 19 → RStepX Tryz.prog R_r15 (lay_r15 bu ini li rd d B now ready st qu n s m pn ex) t0 (fun x L => X x (L 17)) Q i
  | 0, _ => r15_0 bu ini li rd d B now ready st qu n s m pn ex X  t0 hz ht1 Q
  | 1, _ => r15_1 bu ini li rd d B now ready st qu n s m pn ex X  t0 hz ht8 Q
  | 2, _ => r15_2 bu ini li rd d B now ready st qu n s m pn ex X  t0 hz ht9 Q
  | 3, _ => r15_3 bu ini li rd d B now ready st qu n s m pn ex X  t0 hz ht12 Q
  | 4, _ => r15_4 bu ini li rd d B now ready st qu n s m pn ex X  t0 hz ht0 Q
  | 5, _ => r15_5 bu ini li rd d B now ready st qu n s m pn ex X  t0 hz  Q
  | 6, _ => r15_6 bu ini li rd d B now ready st qu n s m pn ex X  t0 hz  Q
  | 7, _ => r15_7 bu ini li rd d B now ready st qu n s m pn ex X M7 t0 hz  Q
  | 8, _ => r15_8 bu ini li rd d B now ready st qu n s m pn ex X C8 t0 hz  Q
  | 9, _ => r15_9 bu ini li rd d B now ready st qu n s m pn ex X  t0 hz ht0 Q
  | 10, _ => r15_10 bu ini li rd d B now ready st qu n s m pn ex X  t0 hz  Q
  | 11, _ => r15_11 bu ini li rd d B now ready st qu n s m pn ex X  t0 hz  Q
  | 12, _ => r15_12 bu ini li rd d B now ready st qu n s m pn ex X M12 t0 hz  Q
  | 13, _ => r15_13 bu ini li rd d B now ready st qu n s m pn ex X  t0 hz ht2 Q
  | 14, _ => r15_14 bu ini li rd d B now ready st qu n s m pn ex X  t0 hz ht9 Q
  | 15, _ => r15_15 bu ini li rd d B now ready st qu n s m pn ex X C15 t0 hz  Q
  | 16, _ => r15_16 bu ini li rd d B now ready st qu n s m pn ex X  t0 hz  Q
  | 17, _ => r15_17 bu ini li rd d B now ready st qu n s m pn ex X S17 t0 hz ht6 Q
  | 18, _ => r15_18 bu ini li rd d B now ready st qu n s m pn ex X  t0 hz  Q
  | k + 19, h => absurd h (by omega)
end
theorem r15_at {ops : Array Oper} (ho : ops = R_r15) (bu : Int) (ini : Int) (li : Int) (rd : Int) (d : Nat) (B : Nat) (now : Int) (ready : Int) (st : Int) (qu : Int) (n : Int) (s : Int) (m : Int) (pn : Bool) (ex : Int) (X : (Unit) → Bool → World → Prop) (M7 : ∀ (x : (Unit)) (w : World), X x false w → w.cell? ⟨d, 21, none⟩ = some (.int .i64 s) ∧ w.cell? ⟨d, 22, none⟩ = some (.int .i64 m)) (M12 : ∀ (x : (Unit)) (w : World), X x false w → rowOf w d (0) 20 = some (.agg (ca bu ini li rd))) (C8 : ∀ (x : (Unit)) (w : World), X x false w → Calls Tryz.prog 99 #[.agg #[.int .i64 s, .int .i64 m]] w fun e w' => e = .returned (.bool pn) ∧ X x false w') (C15 : ∀ (x : (Unit)) (w : World), X x false w → Calls Tryz.prog 25 #[.agg (ca bu ini li rd), .int .i64 ready, .int .i64 qu] w fun e w' => e = .returned (.int .i64 ex) ∧ X x false w') (S17 : ∀ (x : (Unit)) (w : World), X x false w → ∃ u0 u1 u2 u3 u4 u5, w.cell? ⟨B, 0, none⟩ = some u0 ∧ w.cell? ⟨B, 1, none⟩ = some u1 ∧ w.cell? ⟨B, 2, none⟩ = some u2 ∧ w.cell? ⟨B, 3, none⟩ = some u3 ∧ w.cell? ⟨B, 4, none⟩ = some u4 ∧ w.cell? ⟨B, 5, none⟩ = some u5 ∧ w.frozen? ⟨B, 0, none⟩ = false ∧ w.frozen? ⟨B, 1, none⟩ = false ∧ w.frozen? ⟨B, 2, none⟩ = false ∧ w.frozen? ⟨B, 3, none⟩ = false ∧ w.frozen? ⟨B, 4, none⟩ = false ∧ w.frozen? ⟨B, 5, none⟩ = false ∧ X x true ((((((w.setCell ⟨B, 0, none⟩ (.int .i64 now)).setCell ⟨B, 1, none⟩ (.int .i64 st)).setCell ⟨B, 2, none⟩ (.int .i64 qu)).setCell ⟨B, 3, none⟩ (.int .i64 n)).setCell ⟨B, 4, none⟩ (.bool pn)).setCell ⟨B, 5, none⟩ (.int .i64 ex))) (t0 : Array Value) (hz : t0.size = 151) (ht0 : t0[0]? = some (.pointer (some ⟨d, 0, none⟩))) (ht1 : t0[1]? = some (.int .i64 now)) (ht2 : t0[2]? = some (.int .i64 ready)) (ht6 : t0[6]? = some (.pointer (some ⟨B, 0, none⟩))) (ht8 : t0[8]? = some (.int .i64 st)) (ht9 : t0[9]? = some (.int .i64 qu)) (ht12 : t0[12]? = some (.int .i64 n)) {id : Nat} {Q : Exit → Act → World → Prop} {w : World} (x0 : (Unit)) (start : X x0 false w.drew) (fin : ∀ x w', X x true w' → Q .normal ⟨puts ((lay_r15 bu ini li rd d B now ready st qu n s m pn ex) x) t0, []⟩ w') : (Code.region id ops true).wp Tryz.prog Q ⟨t0, []⟩ w := by
  subst ho
  refine wp_regX (Wd := (fun x L => X x (L 17))) 19 rfl r15_acyc r15_size (fun _ => rfl) (r15_nodup bu ini li rd d B now ready st qu n s m pn ex) (fun x => by rw [r15_dsts, hz]; rfl) x0 start (fun i hi => r15_step bu ini li rd d B now ready st qu n s m pn ex X M7 M12 C8 C15 S17 t0 hz ht0 ht1 ht2 ht6 ht8 ht9 ht12 Q i hi) fun x L w' hl hw => fin x w' ?_
  have hw : X x (L 17) w' := hw
  rw [hl 17 (by omega)] at hw
  exact hw
end Go.Proofs.YtdgphoemjeakaaaGreatDoor.De
