/- Package decide: the regions of Next. -/
import Derived.Test.YtdgphoemjeakaaaGreatDoorR04
import Derived.Test.YtdgphoemjeakaaaGreatDoorR07
namespace Go.Proofs.YtdgphoemjeakaaaGreatDoor.De
open Go.RowKit K P U R Me W Rg
set_option maxRecDepth 100000
section
def W8 (X : Int → Int → World → Prop) (s m s' m' : Int) : Bool → World → Prop
  | false, w => Hid (X s m w)
  | true, w => Hid (X s' m' w)
structure Xo (bu ini li rd : Int) (d g : Nat) (last : Int) (X : Int → Int → World → Prop) : Prop where
  no : ∀ s m w w', X s m w → Chg No w w' → X s m w'
  set : ∀ s m s' m' w, X s m w → X s' m' ((w.setCell ⟨d, 21, none⟩ (.int .i64 s')).setCell ⟨d, 22, none⟩ (.int .i64 m'))
  blk : ∀ s m w, X s m w → Blk w d (dc bu ini li rd g s m last) 94
noncomputable def R_r8 : Array Oper := reg Tryz.f63 8
theorem r8_size : R_r8.size = 21 := by kernel_rfl
theorem r8_acyc : acyc R_r8 = true := by kernel_rfl
noncomputable def lay_r8 (bu ini li rd : Int) (d : Nat) (since most now ready b : Int) : Lay := [(some 60, .pointer (some ⟨d, 0, none⟩)),
  (some 61, .pointer (some ⟨d, 0, none⟩)),
  (some 62, .pointer (some ⟨d, 0, none⟩)),
  (some 63, .pointer (some ⟨d, 0, none⟩)),
  (some 64, .agg (ca bu ini li rd)),
  (some 65, .pointer (some ⟨d, 0, none⟩)),
  (some 66, .pointer (some ⟨d, 0, none⟩)),
  (some 67, .pointer (some ⟨d, 21, none⟩)),
  (some 68, .agg #[.int .i64 since, .int .i64 most]),
  (some 69, .int .i64 now),
  (some 70, .pointer (some ⟨d, 0, none⟩)),
  (some 71, .pointer (some ⟨d, 0, none⟩)),
  (some 72, .pointer (some ⟨d, 0, none⟩)),
  (some 73, .agg (ca bu ini li rd)),
  (some 74, .int .i64 b),
  (some 75, .int .i64 ready),
  (some 76, .bool (over b ready)),
  (some 77, .agg #[.int .i64 (nextMode since most now (over b ready)).1, .int .i64 (nextMode since most now (over b ready)).2]),
  (some 78, .pointer (some ⟨d, 0, none⟩)),
  (some 79, .pointer (some ⟨d, 21, none⟩)),
  (none, undef)]
theorem r8_dsts (bu ini li rd : Int) (d : Nat) (since most now ready b : Int) : dsts (lay_r8 bu ini li rd d since most now ready b) = [60, 61, 62, 63, 64, 65, 66, 67, 68, 69, 70, 71, 72, 73, 74, 75, 76, 77, 78, 79] := rfl
theorem r8_nodup (bu ini li rd : Int) (d : Nat) (since most now ready b : Int) : (dsts (lay_r8 bu ini li rd d since most now ready b)).Nodup := by rw [r8_dsts]; decide
theorem r8_0 (bu ini li rd : Int) (d g : Nat) (since most last now ready b : Int) (X : Int → Int → World → Prop) (hX : Xo bu ini li rd d g last X) (HV : Hid (∀ (want ready : Int) (w : World), Calls Tryz.prog 97 #[.agg (ca bu ini li rd), .int .i64 want, .int .i64 ready] w fun e w' => e = .returned (.bool (over want ready)) ∧ Chg No w w'))
    (HM : Hid (∀ (since most now : Int) (over : Bool) (w : World), 0 ≤ now → now ≤ 1099511627776 → -1 ≤ since → since ≤ 1099511627776 → Calls Tryz.prog 96 #[.agg (ca bu ini li rd), .agg #[.int .i64 since, .int .i64 most], .int .i64 now, .bool over] w fun e w' => e = .returned (.agg #[.int .i64 (nextMode since most now over).1, .int .i64 (nextMode since most now over).2]) ∧ Chg No w w'))
    (t00 : 0 ≤ now) (t01 : now ≤ 1099511627776) (s0 : -1 ≤ since) (s1 : since ≤ 1099511627776) (t0 : Array Value) (hz : t0.size = 151) (ht0 : t0[0]? = some (.pointer (some ⟨d, 0, none⟩))) (ht1 : t0[1]? = some (.int .i64 now)) (ht2 : t0[2]? = some (.int .i64 ready)) (ht11 : t0[11]? = some (.int .i64 b)) (Q : Exit → Act → World → Prop) : RStep Tryz.prog R_r8 (lay_r8 bu ini li rd d since most now ready b) t0 (fun L => W8 X since most (nextMode since most now (over b ready)).1 (nextMode since most now (over b ready)).2 (L 20)) Q 0 := by
  intro L o a w ho hL hd hI
  have _ := hX
  have _ := HV
  have _ := HM
  have _ := t00
  have _ := t01
  have _ := s0
  have _ := s1
  have _ := ht1
  have _ := ht2
  have _ := ht11
  have f0 : a.tmps[0]? = some (.pointer (some ⟨d, 0, none⟩)) := hI.from ht0 rfl
  have h : R_r8[0]? = some R_r8[0] := rfl
  conv at h => rhs; arg 1; whnf
  simp only [wpOp, h]
  rw [if_pos (by rfl)]
  left
  go_simp
  exact hI.put (r8_nodup bu ini li rd d since most now ready b) 0 ho hd _ _ _ rfl (.inr rfl) (by intro e he; cases he; exact hz ▸ (by decide : (60 : Nat) < 151)) hI.wd
theorem r8_1 (bu ini li rd : Int) (d g : Nat) (since most last now ready b : Int) (X : Int → Int → World → Prop) (hX : Xo bu ini li rd d g last X) (HV : Hid (∀ (want ready : Int) (w : World), Calls Tryz.prog 97 #[.agg (ca bu ini li rd), .int .i64 want, .int .i64 ready] w fun e w' => e = .returned (.bool (over want ready)) ∧ Chg No w w'))
    (HM : Hid (∀ (since most now : Int) (over : Bool) (w : World), 0 ≤ now → now ≤ 1099511627776 → -1 ≤ since → since ≤ 1099511627776 → Calls Tryz.prog 96 #[.agg (ca bu ini li rd), .agg #[.int .i64 since, .int .i64 most], .int .i64 now, .bool over] w fun e w' => e = .returned (.agg #[.int .i64 (nextMode since most now over).1, .int .i64 (nextMode since most now over).2]) ∧ Chg No w w'))
    (t00 : 0 ≤ now) (t01 : now ≤ 1099511627776) (s0 : -1 ≤ since) (s1 : since ≤ 1099511627776) (t0 : Array Value) (hz : t0.size = 151) (ht0 : t0[0]? = some (.pointer (some ⟨d, 0, none⟩))) (ht1 : t0[1]? = some (.int .i64 now)) (ht2 : t0[2]? = some (.int .i64 ready)) (ht11 : t0[11]? = some (.int .i64 b)) (Q : Exit → Act → World → Prop) : RStep Tryz.prog R_r8 (lay_r8 bu ini li rd d since most now ready b) t0 (fun L => W8 X since most (nextMode since most now (over b ready)).1 (nextMode since most now (over b ready)).2 (L 20)) Q 1 := by
  intro L o a w ho hL hd hI
  have _ := hX
  have _ := HV
  have _ := HM
  have _ := t00
  have _ := t01
  have _ := s0
  have _ := s1
  have _ := ht1
  have _ := ht2
  have _ := ht11
  have f0 : a.tmps[0]? = some (.pointer (some ⟨d, 0, none⟩)) := hI.from ht0 rfl
  have h : R_r8[1]? = some R_r8[1] := rfl
  conv at h => rhs; arg 1; whnf
  simp only [wpOp, h]
  rw [if_pos (by rfl)]
  left
  go_simp
  exact hI.put (r8_nodup bu ini li rd d since most now ready b) 1 ho hd _ _ _ rfl (.inr rfl) (by intro e he; cases he; exact hz ▸ (by decide : (61 : Nat) < 151)) hI.wd
theorem r8_2 (bu ini li rd : Int) (d g : Nat) (since most last now ready b : Int) (X : Int → Int → World → Prop) (hX : Xo bu ini li rd d g last X) (HV : Hid (∀ (want ready : Int) (w : World), Calls Tryz.prog 97 #[.agg (ca bu ini li rd), .int .i64 want, .int .i64 ready] w fun e w' => e = .returned (.bool (over want ready)) ∧ Chg No w w'))
    (HM : Hid (∀ (since most now : Int) (over : Bool) (w : World), 0 ≤ now → now ≤ 1099511627776 → -1 ≤ since → since ≤ 1099511627776 → Calls Tryz.prog 96 #[.agg (ca bu ini li rd), .agg #[.int .i64 since, .int .i64 most], .int .i64 now, .bool over] w fun e w' => e = .returned (.agg #[.int .i64 (nextMode since most now over).1, .int .i64 (nextMode since most now over).2]) ∧ Chg No w w'))
    (t00 : 0 ≤ now) (t01 : now ≤ 1099511627776) (s0 : -1 ≤ since) (s1 : since ≤ 1099511627776) (t0 : Array Value) (hz : t0.size = 151) (ht0 : t0[0]? = some (.pointer (some ⟨d, 0, none⟩))) (ht1 : t0[1]? = some (.int .i64 now)) (ht2 : t0[2]? = some (.int .i64 ready)) (ht11 : t0[11]? = some (.int .i64 b)) (Q : Exit → Act → World → Prop) : RStep Tryz.prog R_r8 (lay_r8 bu ini li rd d since most now ready b) t0 (fun L => W8 X since most (nextMode since most now (over b ready)).1 (nextMode since most now (over b ready)).2 (L 20)) Q 2 := by
  intro L o a w ho hL hd hI
  have _ := hX
  have _ := HV
  have _ := HM
  have _ := t00
  have _ := t01
  have _ := s0
  have _ := s1
  have _ := ht0
  have _ := ht1
  have _ := ht2
  have _ := ht11
  have d1 : L 1 = true := dep_spec ho hd (k := 1) (by kernel_rfl)
  have f61 : a.tmps[61]? = some (.pointer (some ⟨d, 0, none⟩)) := hI.at 1 rfl d1
  have h : R_r8[2]? = some R_r8[2] := rfl
  conv at h => rhs; arg 1; whnf
  simp only [wpOp, h]
  rw [if_pos (by rfl)]
  left
  go_simp
  exact hI.put (r8_nodup bu ini li rd d since most now ready b) 2 ho hd _ _ _ rfl (.inr rfl) (by intro e he; cases he; exact hz ▸ (by decide : (62 : Nat) < 151)) hI.wd
theorem r8_3 (bu ini li rd : Int) (d g : Nat) (since most last now ready b : Int) (X : Int → Int → World → Prop) (hX : Xo bu ini li rd d g last X) (HV : Hid (∀ (want ready : Int) (w : World), Calls Tryz.prog 97 #[.agg (ca bu ini li rd), .int .i64 want, .int .i64 ready] w fun e w' => e = .returned (.bool (over want ready)) ∧ Chg No w w'))
    (HM : Hid (∀ (since most now : Int) (over : Bool) (w : World), 0 ≤ now → now ≤ 1099511627776 → -1 ≤ since → since ≤ 1099511627776 → Calls Tryz.prog 96 #[.agg (ca bu ini li rd), .agg #[.int .i64 since, .int .i64 most], .int .i64 now, .bool over] w fun e w' => e = .returned (.agg #[.int .i64 (nextMode since most now over).1, .int .i64 (nextMode since most now over).2]) ∧ Chg No w w'))
    (t00 : 0 ≤ now) (t01 : now ≤ 1099511627776) (s0 : -1 ≤ since) (s1 : since ≤ 1099511627776) (t0 : Array Value) (hz : t0.size = 151) (ht0 : t0[0]? = some (.pointer (some ⟨d, 0, none⟩))) (ht1 : t0[1]? = some (.int .i64 now)) (ht2 : t0[2]? = some (.int .i64 ready)) (ht11 : t0[11]? = some (.int .i64 b)) (Q : Exit → Act → World → Prop) : RStep Tryz.prog R_r8 (lay_r8 bu ini li rd d since most now ready b) t0 (fun L => W8 X since most (nextMode since most now (over b ready)).1 (nextMode since most now (over b ready)).2 (L 20)) Q 3 := by
  intro L o a w ho hL hd hI
  have _ := hX
  have _ := HV
  have _ := HM
  have _ := t00
  have _ := t01
  have _ := s0
  have _ := s1
  have _ := ht0
  have _ := ht1
  have _ := ht2
  have _ := ht11
  have d2 : L 2 = true := dep_spec ho hd (k := 2) (by kernel_rfl)
  have f62 : a.tmps[62]? = some (.pointer (some ⟨d, 0, none⟩)) := hI.at 2 rfl d2
  have h : R_r8[3]? = some R_r8[3] := rfl
  conv at h => rhs; arg 1; whnf
  simp only [wpOp, h]
  rw [if_pos (by rfl)]
  left
  go_simp
  exact hI.put (r8_nodup bu ini li rd d since most now ready b) 3 ho hd _ _ _ rfl (.inr rfl) (by intro e he; cases he; exact hz ▸ (by decide : (63 : Nat) < 151)) hI.wd
theorem r8_4 (bu ini li rd : Int) (d g : Nat) (since most last now ready b : Int) (X : Int → Int → World → Prop) (hX : Xo bu ini li rd d g last X) (HV : Hid (∀ (want ready : Int) (w : World), Calls Tryz.prog 97 #[.agg (ca bu ini li rd), .int .i64 want, .int .i64 ready] w fun e w' => e = .returned (.bool (over want ready)) ∧ Chg No w w'))
    (HM : Hid (∀ (since most now : Int) (over : Bool) (w : World), 0 ≤ now → now ≤ 1099511627776 → -1 ≤ since → since ≤ 1099511627776 → Calls Tryz.prog 96 #[.agg (ca bu ini li rd), .agg #[.int .i64 since, .int .i64 most], .int .i64 now, .bool over] w fun e w' => e = .returned (.agg #[.int .i64 (nextMode since most now over).1, .int .i64 (nextMode since most now over).2]) ∧ Chg No w w'))
    (t00 : 0 ≤ now) (t01 : now ≤ 1099511627776) (s0 : -1 ≤ since) (s1 : since ≤ 1099511627776) (t0 : Array Value) (hz : t0.size = 151) (ht0 : t0[0]? = some (.pointer (some ⟨d, 0, none⟩))) (ht1 : t0[1]? = some (.int .i64 now)) (ht2 : t0[2]? = some (.int .i64 ready)) (ht11 : t0[11]? = some (.int .i64 b)) (Q : Exit → Act → World → Prop) : RStep Tryz.prog R_r8 (lay_r8 bu ini li rd d since most now ready b) t0 (fun L => W8 X since most (nextMode since most now (over b ready)).1 (nextMode since most now (over b ready)).2 (L 20)) Q 4 := by
  intro L o a w ho hL hd hI
  have _ := HV
  have _ := HM
  have _ := t00
  have _ := t01
  have _ := s0
  have _ := s1
  have _ := ht0
  have _ := ht1
  have _ := ht2
  have _ := ht11
  have d3 : L 3 = true := dep_spec ho hd (k := 3) (by kernel_rfl)
  have f63 : a.tmps[63]? = some (.pointer (some ⟨d, 0, none⟩)) := hI.at 3 rfl d3
  have z20 : L 20 = false := by
    cases q20 : L 20 with
    | false => rfl
    | true =>
      have q4 : L 4 = true := hI.tr q20 (by kernel_rfl)
      rw [hL] at q4; cases q4
  have hw : W8 X since most (nextMode since most now (over b ready)).1 (nextMode since most now (over b ready)).2 (L 20) w := hI.wd
  rw [z20] at hw
  have h : R_r8[4]? = some R_r8[4] := rfl
  conv at h => rhs; arg 1; whnf
  simp only [wpOp, h]
  rw [if_pos (by rfl)]
  left
  have hr := row_dc (hX.blk _ _ _ hw.out)
  go_simp
  exact hI.put (r8_nodup bu ini li rd d since most now ready b) 4 ho hd _ _ _ rfl (.inr rfl) (by intro e he; cases he; exact hz ▸ (by decide : (64 : Nat) < 151)) hI.wd
theorem r8_5 (bu ini li rd : Int) (d g : Nat) (since most last now ready b : Int) (X : Int → Int → World → Prop) (hX : Xo bu ini li rd d g last X) (HV : Hid (∀ (want ready : Int) (w : World), Calls Tryz.prog 97 #[.agg (ca bu ini li rd), .int .i64 want, .int .i64 ready] w fun e w' => e = .returned (.bool (over want ready)) ∧ Chg No w w'))
    (HM : Hid (∀ (since most now : Int) (over : Bool) (w : World), 0 ≤ now → now ≤ 1099511627776 → -1 ≤ since → since ≤ 1099511627776 → Calls Tryz.prog 96 #[.agg (ca bu ini li rd), .agg #[.int .i64 since, .int .i64 most], .int .i64 now, .bool over] w fun e w' => e = .returned (.agg #[.int .i64 (nextMode since most now over).1, .int .i64 (nextMode since most now over).2]) ∧ Chg No w w'))
    (t00 : 0 ≤ now) (t01 : now ≤ 1099511627776) (s0 : -1 ≤ since) (s1 : since ≤ 1099511627776) (t0 : Array Value) (hz : t0.size = 151) (ht0 : t0[0]? = some (.pointer (some ⟨d, 0, none⟩))) (ht1 : t0[1]? = some (.int .i64 now)) (ht2 : t0[2]? = some (.int .i64 ready)) (ht11 : t0[11]? = some (.int .i64 b)) (Q : Exit → Act → World → Prop) : RStep Tryz.prog R_r8 (lay_r8 bu ini li rd d since most now ready b) t0 (fun L => W8 X since most (nextMode since most now (over b ready)).1 (nextMode since most now (over b ready)).2 (L 20)) Q 5 := by
  intro L o a w ho hL hd hI
  have _ := hX
  have _ := HV
  have _ := HM
  have _ := t00
  have _ := t01
  have _ := s0
  have _ := s1
  have _ := ht1
  have _ := ht2
  have _ := ht11
  have f0 : a.tmps[0]? = some (.pointer (some ⟨d, 0, none⟩)) := hI.from ht0 rfl
  have h : R_r8[5]? = some R_r8[5] := rfl
  conv at h => rhs; arg 1; whnf
  simp only [wpOp, h]
  rw [if_pos (by rfl)]
  left
  go_simp
  exact hI.put (r8_nodup bu ini li rd d since most now ready b) 5 ho hd _ _ _ rfl (.inr rfl) (by intro e he; cases he; exact hz ▸ (by decide : (65 : Nat) < 151)) hI.wd
theorem r8_6 (bu ini li rd : Int) (d g : Nat) (since most last now ready b : Int) (X : Int → Int → World → Prop) (hX : Xo bu ini li rd d g last X) (HV : Hid (∀ (want ready : Int) (w : World), Calls Tryz.prog 97 #[.agg (ca bu ini li rd), .int .i64 want, .int .i64 ready] w fun e w' => e = .returned (.bool (over want ready)) ∧ Chg No w w'))
    (HM : Hid (∀ (since most now : Int) (over : Bool) (w : World), 0 ≤ now → now ≤ 1099511627776 → -1 ≤ since → since ≤ 1099511627776 → Calls Tryz.prog 96 #[.agg (ca bu ini li rd), .agg #[.int .i64 since, .int .i64 most], .int .i64 now, .bool over] w fun e w' => e = .returned (.agg #[.int .i64 (nextMode since most now over).1, .int .i64 (nextMode since most now over).2]) ∧ Chg No w w'))
    (t00 : 0 ≤ now) (t01 : now ≤ 1099511627776) (s0 : -1 ≤ since) (s1 : since ≤ 1099511627776) (t0 : Array Value) (hz : t0.size = 151) (ht0 : t0[0]? = some (.pointer (some ⟨d, 0, none⟩))) (ht1 : t0[1]? = some (.int .i64 now)) (ht2 : t0[2]? = some (.int .i64 ready)) (ht11 : t0[11]? = some (.int .i64 b)) (Q : Exit → Act → World → Prop) : RStep Tryz.prog R_r8 (lay_r8 bu ini li rd d since most now ready b) t0 (fun L => W8 X since most (nextMode since most now (over b ready)).1 (nextMode since most now (over b ready)).2 (L 20)) Q 6 := by
  intro L o a w ho hL hd hI
  have _ := hX
  have _ := HV
  have _ := HM
  have _ := t00
  have _ := t01
  have _ := s0
  have _ := s1
  have _ := ht0
  have _ := ht1
  have _ := ht2
  have _ := ht11
  have d5 : L 5 = true := dep_spec ho hd (k := 5) (by kernel_rfl)
  have f65 : a.tmps[65]? = some (.pointer (some ⟨d, 0, none⟩)) := hI.at 5 rfl d5
  have h : R_r8[6]? = some R_r8[6] := rfl
  conv at h => rhs; arg 1; whnf
  simp only [wpOp, h]
  rw [if_pos (by rfl)]
  left
  go_simp
  exact hI.put (r8_nodup bu ini li rd d since most now ready b) 6 ho hd _ _ _ rfl (.inr rfl) (by intro e he; cases he; exact hz ▸ (by decide : (66 : Nat) < 151)) hI.wd
theorem r8_7 (bu ini li rd : Int) (d g : Nat) (since most last now ready b : Int) (X : Int → Int → World → Prop) (hX : Xo bu ini li rd d g last X) (HV : Hid (∀ (want ready : Int) (w : World), Calls Tryz.prog 97 #[.agg (ca bu ini li rd), .int .i64 want, .int .i64 ready] w fun e w' => e = .returned (.bool (over want ready)) ∧ Chg No w w'))
    (HM : Hid (∀ (since most now : Int) (over : Bool) (w : World), 0 ≤ now → now ≤ 1099511627776 → -1 ≤ since → since ≤ 1099511627776 → Calls Tryz.prog 96 #[.agg (ca bu ini li rd), .agg #[.int .i64 since, .int .i64 most], .int .i64 now, .bool over] w fun e w' => e = .returned (.agg #[.int .i64 (nextMode since most now over).1, .int .i64 (nextMode since most now over).2]) ∧ Chg No w w'))
    (t00 : 0 ≤ now) (t01 : now ≤ 1099511627776) (s0 : -1 ≤ since) (s1 : since ≤ 1099511627776) (t0 : Array Value) (hz : t0.size = 151) (ht0 : t0[0]? = some (.pointer (some ⟨d, 0, none⟩))) (ht1 : t0[1]? = some (.int .i64 now)) (ht2 : t0[2]? = some (.int .i64 ready)) (ht11 : t0[11]? = some (.int .i64 b)) (Q : Exit → Act → World → Prop) : RStep Tryz.prog R_r8 (lay_r8 bu ini li rd d since most now ready b) t0 (fun L => W8 X since most (nextMode since most now (over b ready)).1 (nextMode since most now (over b ready)).2 (L 20)) Q 7 := by
  intro L o a w ho hL hd hI
  have _ := hX
  have _ := HV
  have _ := HM
  have _ := t00
  have _ := t01
  have _ := s0
  have _ := s1
  have _ := ht0
  have _ := ht1
  have _ := ht2
  have _ := ht11
  have d6 : L 6 = true := dep_spec ho hd (k := 6) (by kernel_rfl)
  have f66 : a.tmps[66]? = some (.pointer (some ⟨d, 0, none⟩)) := hI.at 6 rfl d6
  have h : R_r8[7]? = some R_r8[7] := rfl
  conv at h => rhs; arg 1; whnf
  simp only [wpOp, h]
  rw [if_pos (by rfl)]
  left
  go_simp
  exact hI.put (r8_nodup bu ini li rd d since most now ready b) 7 ho hd _ _ _ rfl (.inr rfl) (by intro e he; cases he; exact hz ▸ (by decide : (67 : Nat) < 151)) hI.wd
theorem r8_8 (bu ini li rd : Int) (d g : Nat) (since most last now ready b : Int) (X : Int → Int → World → Prop) (hX : Xo bu ini li rd d g last X) (HV : Hid (∀ (want ready : Int) (w : World), Calls Tryz.prog 97 #[.agg (ca bu ini li rd), .int .i64 want, .int .i64 ready] w fun e w' => e = .returned (.bool (over want ready)) ∧ Chg No w w'))
    (HM : Hid (∀ (since most now : Int) (over : Bool) (w : World), 0 ≤ now → now ≤ 1099511627776 → -1 ≤ since → since ≤ 1099511627776 → Calls Tryz.prog 96 #[.agg (ca bu ini li rd), .agg #[.int .i64 since, .int .i64 most], .int .i64 now, .bool over] w fun e w' => e = .returned (.agg #[.int .i64 (nextMode since most now over).1, .int .i64 (nextMode since most now over).2]) ∧ Chg No w w'))
    (t00 : 0 ≤ now) (t01 : now ≤ 1099511627776) (s0 : -1 ≤ since) (s1 : since ≤ 1099511627776) (t0 : Array Value) (hz : t0.size = 151) (ht0 : t0[0]? = some (.pointer (some ⟨d, 0, none⟩))) (ht1 : t0[1]? = some (.int .i64 now)) (ht2 : t0[2]? = some (.int .i64 ready)) (ht11 : t0[11]? = some (.int .i64 b)) (Q : Exit → Act → World → Prop) : RStep Tryz.prog R_r8 (lay_r8 bu ini li rd d since most now ready b) t0 (fun L => W8 X since most (nextMode since most now (over b ready)).1 (nextMode since most now (over b ready)).2 (L 20)) Q 8 := by
  intro L o a w ho hL hd hI
  have _ := HV
  have _ := HM
  have _ := t00
  have _ := t01
  have _ := s0
  have _ := s1
  have _ := ht0
  have _ := ht1
  have _ := ht2
  have _ := ht11
  have d7 : L 7 = true := dep_spec ho hd (k := 7) (by kernel_rfl)
  have f67 : a.tmps[67]? = some (.pointer (some ⟨d, 21, none⟩)) := hI.at 7 rfl d7
  have z20 : L 20 = false := by
    cases q20 : L 20 with
    | false => rfl
    | true =>
      have q8 : L 8 = true := hI.tr q20 (by kernel_rfl)
      rw [hL] at q8; cases q8
  have hw : W8 X since most (nextMode since most now (over b ready)).1 (nextMode since most now (over b ready)).2 (L 20) w := hI.wd
  rw [z20] at hw
  have h : R_r8[8]? = some R_r8[8] := rfl
  conv at h => rhs; arg 1; whnf
  simp only [wpOp, h]
  rw [if_pos (by rfl)]
  left
  have hb := hX.blk _ _ _ hw.out
  have c21 : w.cell? ⟨d, 21, none⟩ = some (.int .i64 since) := by rw [hb.cell]; rfl
  have c22 : w.cell? ⟨d, 22, none⟩ = some (.int .i64 most) := by rw [hb.cell]; rfl
  clear hb
  go_simp
  exact hI.put (r8_nodup bu ini li rd d since most now ready b) 8 ho hd _ _ _ rfl (.inr rfl) (by intro e he; cases he; exact hz ▸ (by decide : (68 : Nat) < 151)) hI.wd
theorem r8_9 (bu ini li rd : Int) (d g : Nat) (since most last now ready b : Int) (X : Int → Int → World → Prop) (hX : Xo bu ini li rd d g last X) (HV : Hid (∀ (want ready : Int) (w : World), Calls Tryz.prog 97 #[.agg (ca bu ini li rd), .int .i64 want, .int .i64 ready] w fun e w' => e = .returned (.bool (over want ready)) ∧ Chg No w w'))
    (HM : Hid (∀ (since most now : Int) (over : Bool) (w : World), 0 ≤ now → now ≤ 1099511627776 → -1 ≤ since → since ≤ 1099511627776 → Calls Tryz.prog 96 #[.agg (ca bu ini li rd), .agg #[.int .i64 since, .int .i64 most], .int .i64 now, .bool over] w fun e w' => e = .returned (.agg #[.int .i64 (nextMode since most now over).1, .int .i64 (nextMode since most now over).2]) ∧ Chg No w w'))
    (t00 : 0 ≤ now) (t01 : now ≤ 1099511627776) (s0 : -1 ≤ since) (s1 : since ≤ 1099511627776) (t0 : Array Value) (hz : t0.size = 151) (ht0 : t0[0]? = some (.pointer (some ⟨d, 0, none⟩))) (ht1 : t0[1]? = some (.int .i64 now)) (ht2 : t0[2]? = some (.int .i64 ready)) (ht11 : t0[11]? = some (.int .i64 b)) (Q : Exit → Act → World → Prop) : RStep Tryz.prog R_r8 (lay_r8 bu ini li rd d since most now ready b) t0 (fun L => W8 X since most (nextMode since most now (over b ready)).1 (nextMode since most now (over b ready)).2 (L 20)) Q 9 := by
  intro L o a w ho hL hd hI
  have _ := hX
  have _ := HV
  have _ := HM
  have _ := t00
  have _ := t01
  have _ := s0
  have _ := s1
  have _ := ht0
  have _ := ht2
  have _ := ht11
  have f1 : a.tmps[1]? = some (.int .i64 now) := hI.from ht1 rfl
  have h : R_r8[9]? = some R_r8[9] := rfl
  conv at h => rhs; arg 1; whnf
  simp only [wpOp, h]
  rw [if_pos (by rfl)]
  left
  go_simp
  exact hI.put (r8_nodup bu ini li rd d since most now ready b) 9 ho hd _ _ _ rfl (.inr rfl) (by intro e he; cases he; exact hz ▸ (by decide : (69 : Nat) < 151)) hI.wd
theorem r8_10 (bu ini li rd : Int) (d g : Nat) (since most last now ready b : Int) (X : Int → Int → World → Prop) (hX : Xo bu ini li rd d g last X) (HV : Hid (∀ (want ready : Int) (w : World), Calls Tryz.prog 97 #[.agg (ca bu ini li rd), .int .i64 want, .int .i64 ready] w fun e w' => e = .returned (.bool (over want ready)) ∧ Chg No w w'))
    (HM : Hid (∀ (since most now : Int) (over : Bool) (w : World), 0 ≤ now → now ≤ 1099511627776 → -1 ≤ since → since ≤ 1099511627776 → Calls Tryz.prog 96 #[.agg (ca bu ini li rd), .agg #[.int .i64 since, .int .i64 most], .int .i64 now, .bool over] w fun e w' => e = .returned (.agg #[.int .i64 (nextMode since most now over).1, .int .i64 (nextMode since most now over).2]) ∧ Chg No w w'))
    (t00 : 0 ≤ now) (t01 : now ≤ 1099511627776) (s0 : -1 ≤ since) (s1 : since ≤ 1099511627776) (t0 : Array Value) (hz : t0.size = 151) (ht0 : t0[0]? = some (.pointer (some ⟨d, 0, none⟩))) (ht1 : t0[1]? = some (.int .i64 now)) (ht2 : t0[2]? = some (.int .i64 ready)) (ht11 : t0[11]? = some (.int .i64 b)) (Q : Exit → Act → World → Prop) : RStep Tryz.prog R_r8 (lay_r8 bu ini li rd d since most now ready b) t0 (fun L => W8 X since most (nextMode since most now (over b ready)).1 (nextMode since most now (over b ready)).2 (L 20)) Q 10 := by
  intro L o a w ho hL hd hI
  have _ := hX
  have _ := HV
  have _ := HM
  have _ := t00
  have _ := t01
  have _ := s0
  have _ := s1
  have _ := ht1
  have _ := ht2
  have _ := ht11
  have f0 : a.tmps[0]? = some (.pointer (some ⟨d, 0, none⟩)) := hI.from ht0 rfl
  have h : R_r8[10]? = some R_r8[10] := rfl
  conv at h => rhs; arg 1; whnf
  simp only [wpOp, h]
  rw [if_pos (by rfl)]
  left
  go_simp
  exact hI.put (r8_nodup bu ini li rd d since most now ready b) 10 ho hd _ _ _ rfl (.inr rfl) (by intro e he; cases he; exact hz ▸ (by decide : (70 : Nat) < 151)) hI.wd
theorem r8_11 (bu ini li rd : Int) (d g : Nat) (since most last now ready b : Int) (X : Int → Int → World → Prop) (hX : Xo bu ini li rd d g last X) (HV : Hid (∀ (want ready : Int) (w : World), Calls Tryz.prog 97 #[.agg (ca bu ini li rd), .int .i64 want, .int .i64 ready] w fun e w' => e = .returned (.bool (over want ready)) ∧ Chg No w w'))
    (HM : Hid (∀ (since most now : Int) (over : Bool) (w : World), 0 ≤ now → now ≤ 1099511627776 → -1 ≤ since → since ≤ 1099511627776 → Calls Tryz.prog 96 #[.agg (ca bu ini li rd), .agg #[.int .i64 since, .int .i64 most], .int .i64 now, .bool over] w fun e w' => e = .returned (.agg #[.int .i64 (nextMode since most now over).1, .int .i64 (nextMode since most now over).2]) ∧ Chg No w w'))
    (t00 : 0 ≤ now) (t01 : now ≤ 1099511627776) (s0 : -1 ≤ since) (s1 : since ≤ 1099511627776) (t0 : Array Value) (hz : t0.size = 151) (ht0 : t0[0]? = some (.pointer (some ⟨d, 0, none⟩))) (ht1 : t0[1]? = some (.int .i64 now)) (ht2 : t0[2]? = some (.int .i64 ready)) (ht11 : t0[11]? = some (.int .i64 b)) (Q : Exit → Act → World → Prop) : RStep Tryz.prog R_r8 (lay_r8 bu ini li rd d since most now ready b) t0 (fun L => W8 X since most (nextMode since most now (over b ready)).1 (nextMode since most now (over b ready)).2 (L 20)) Q 11 := by
  intro L o a w ho hL hd hI
  have _ := hX
  have _ := HV
  have _ := HM
  have _ := t00
  have _ := t01
  have _ := s0
  have _ := s1
  have _ := ht0
  have _ := ht1
  have _ := ht2
  have _ := ht11
  have d10 : L 10 = true := dep_spec ho hd (k := 10) (by kernel_rfl)
  have f70 : a.tmps[70]? = some (.pointer (some ⟨d, 0, none⟩)) := hI.at 10 rfl d10
  have h : R_r8[11]? = some R_r8[11] := rfl
  conv at h => rhs; arg 1; whnf
  simp only [wpOp, h]
  rw [if_pos (by rfl)]
  left
  go_simp
  exact hI.put (r8_nodup bu ini li rd d since most now ready b) 11 ho hd _ _ _ rfl (.inr rfl) (by intro e he; cases he; exact hz ▸ (by decide : (71 : Nat) < 151)) hI.wd
theorem r8_12 (bu ini li rd : Int) (d g : Nat) (since most last now ready b : Int) (X : Int → Int → World → Prop) (hX : Xo bu ini li rd d g last X) (HV : Hid (∀ (want ready : Int) (w : World), Calls Tryz.prog 97 #[.agg (ca bu ini li rd), .int .i64 want, .int .i64 ready] w fun e w' => e = .returned (.bool (over want ready)) ∧ Chg No w w'))
    (HM : Hid (∀ (since most now : Int) (over : Bool) (w : World), 0 ≤ now → now ≤ 1099511627776 → -1 ≤ since → since ≤ 1099511627776 → Calls Tryz.prog 96 #[.agg (ca bu ini li rd), .agg #[.int .i64 since, .int .i64 most], .int .i64 now, .bool over] w fun e w' => e = .returned (.agg #[.int .i64 (nextMode since most now over).1, .int .i64 (nextMode since most now over).2]) ∧ Chg No w w'))
    (t00 : 0 ≤ now) (t01 : now ≤ 1099511627776) (s0 : -1 ≤ since) (s1 : since ≤ 1099511627776) (t0 : Array Value) (hz : t0.size = 151) (ht0 : t0[0]? = some (.pointer (some ⟨d, 0, none⟩))) (ht1 : t0[1]? = some (.int .i64 now)) (ht2 : t0[2]? = some (.int .i64 ready)) (ht11 : t0[11]? = some (.int .i64 b)) (Q : Exit → Act → World → Prop) : RStep Tryz.prog R_r8 (lay_r8 bu ini li rd d since most now ready b) t0 (fun L => W8 X since most (nextMode since most now (over b ready)).1 (nextMode since most now (over b ready)).2 (L 20)) Q 12 := by
  intro L o a w ho hL hd hI
  have _ := hX
  have _ := HV
  have _ := HM
  have _ := t00
  have _ := t01
  have _ := s0
  have _ := s1
  have _ := ht0
  have _ := ht1
  have _ := ht2
  have _ := ht11
  have d11 : L 11 = true := dep_spec ho hd (k := 11) (by kernel_rfl)
  have f71 : a.tmps[71]? = some (.pointer (some ⟨d, 0, none⟩)) := hI.at 11 rfl d11
  have h : R_r8[12]? = some R_r8[12] := rfl
  conv at h => rhs; arg 1; whnf
  simp only [wpOp, h]
  rw [if_pos (by rfl)]
  left
  go_simp
  exact hI.put (r8_nodup bu ini li rd d since most now ready b) 12 ho hd _ _ _ rfl (.inr rfl) (by intro e he; cases he; exact hz ▸ (by decide : (72 : Nat) < 151)) hI.wd
theorem r8_13 (bu ini li rd : Int) (d g : Nat) (since most last now ready b : Int) (X : Int → Int → World → Prop) (hX : Xo bu ini li rd d g last X) (HV : Hid (∀ (want ready : Int) (w : World), Calls Tryz.prog 97 #[.agg (ca bu ini li rd), .int .i64 want, .int .i64 ready] w fun e w' => e = .returned (.bool (over want ready)) ∧ Chg No w w'))
    (HM : Hid (∀ (since most now : Int) (over : Bool) (w : World), 0 ≤ now → now ≤ 1099511627776 → -1 ≤ since → since ≤ 1099511627776 → Calls Tryz.prog 96 #[.agg (ca bu ini li rd), .agg #[.int .i64 since, .int .i64 most], .int .i64 now, .bool over] w fun e w' => e = .returned (.agg #[.int .i64 (nextMode since most now over).1, .int .i64 (nextMode since most now over).2]) ∧ Chg No w w'))
    (t00 : 0 ≤ now) (t01 : now ≤ 1099511627776) (s0 : -1 ≤ since) (s1 : since ≤ 1099511627776) (t0 : Array Value) (hz : t0.size = 151) (ht0 : t0[0]? = some (.pointer (some ⟨d, 0, none⟩))) (ht1 : t0[1]? = some (.int .i64 now)) (ht2 : t0[2]? = some (.int .i64 ready)) (ht11 : t0[11]? = some (.int .i64 b)) (Q : Exit → Act → World → Prop) : RStep Tryz.prog R_r8 (lay_r8 bu ini li rd d since most now ready b) t0 (fun L => W8 X since most (nextMode since most now (over b ready)).1 (nextMode since most now (over b ready)).2 (L 20)) Q 13 := by
  intro L o a w ho hL hd hI
  have _ := HV
  have _ := HM
  have _ := t00
  have _ := t01
  have _ := s0
  have _ := s1
  have _ := ht0
  have _ := ht1
  have _ := ht2
  have _ := ht11
  have d12 : L 12 = true := dep_spec ho hd (k := 12) (by kernel_rfl)
  have f72 : a.tmps[72]? = some (.pointer (some ⟨d, 0, none⟩)) := hI.at 12 rfl d12
  have z20 : L 20 = false := by
    cases q20 : L 20 with
    | false => rfl
    | true =>
      have q13 : L 13 = true := hI.tr q20 (by kernel_rfl)
      rw [hL] at q13; cases q13
  have hw : W8 X since most (nextMode since most now (over b ready)).1 (nextMode since most now (over b ready)).2 (L 20) w := hI.wd
  rw [z20] at hw
  have h : R_r8[13]? = some R_r8[13] := rfl
  conv at h => rhs; arg 1; whnf
  simp only [wpOp, h]
  rw [if_pos (by rfl)]
  left
  have hr := row_dc (hX.blk _ _ _ hw.out)
  go_simp
  exact hI.put (r8_nodup bu ini li rd d since most now ready b) 13 ho hd _ _ _ rfl (.inr rfl) (by intro e he; cases he; exact hz ▸ (by decide : (73 : Nat) < 151)) hI.wd
theorem r8_14 (bu ini li rd : Int) (d g : Nat) (since most last now ready b : Int) (X : Int → Int → World → Prop) (hX : Xo bu ini li rd d g last X) (HV : Hid (∀ (want ready : Int) (w : World), Calls Tryz.prog 97 #[.agg (ca bu ini li rd), .int .i64 want, .int .i64 ready] w fun e w' => e = .returned (.bool (over want ready)) ∧ Chg No w w'))
    (HM : Hid (∀ (since most now : Int) (over : Bool) (w : World), 0 ≤ now → now ≤ 1099511627776 → -1 ≤ since → since ≤ 1099511627776 → Calls Tryz.prog 96 #[.agg (ca bu ini li rd), .agg #[.int .i64 since, .int .i64 most], .int .i64 now, .bool over] w fun e w' => e = .returned (.agg #[.int .i64 (nextMode since most now over).1, .int .i64 (nextMode since most now over).2]) ∧ Chg No w w'))
    (t00 : 0 ≤ now) (t01 : now ≤ 1099511627776) (s0 : -1 ≤ since) (s1 : since ≤ 1099511627776) (t0 : Array Value) (hz : t0.size = 151) (ht0 : t0[0]? = some (.pointer (some ⟨d, 0, none⟩))) (ht1 : t0[1]? = some (.int .i64 now)) (ht2 : t0[2]? = some (.int .i64 ready)) (ht11 : t0[11]? = some (.int .i64 b)) (Q : Exit → Act → World → Prop) : RStep Tryz.prog R_r8 (lay_r8 bu ini li rd d since most now ready b) t0 (fun L => W8 X since most (nextMode since most now (over b ready)).1 (nextMode since most now (over b ready)).2 (L 20)) Q 14 := by
  intro L o a w ho hL hd hI
  have _ := hX
  have _ := HV
  have _ := HM
  have _ := t00
  have _ := t01
  have _ := s0
  have _ := s1
  have _ := ht0
  have _ := ht1
  have _ := ht2
  have f11 : a.tmps[11]? = some (.int .i64 b) := hI.from ht11 rfl
  have h : R_r8[14]? = some R_r8[14] := rfl
  conv at h => rhs; arg 1; whnf
  simp only [wpOp, h]
  rw [if_pos (by rfl)]
  left
  go_simp
  exact hI.put (r8_nodup bu ini li rd d since most now ready b) 14 ho hd _ _ _ rfl (.inr rfl) (by intro e he; cases he; exact hz ▸ (by decide : (74 : Nat) < 151)) hI.wd
theorem r8_15 (bu ini li rd : Int) (d g : Nat) (since most last now ready b : Int) (X : Int → Int → World → Prop) (hX : Xo bu ini li rd d g last X) (HV : Hid (∀ (want ready : Int) (w : World), Calls Tryz.prog 97 #[.agg (ca bu ini li rd), .int .i64 want, .int .i64 ready] w fun e w' => e = .returned (.bool (over want ready)) ∧ Chg No w w'))
    (HM : Hid (∀ (since most now : Int) (over : Bool) (w : World), 0 ≤ now → now ≤ 1099511627776 → -1 ≤ since → since ≤ 1099511627776 → Calls Tryz.prog 96 #[.agg (ca bu ini li rd), .agg #[.int .i64 since, .int .i64 most], .int .i64 now, .bool over] w fun e w' => e = .returned (.agg #[.int .i64 (nextMode since most now over).1, .int .i64 (nextMode since most now over).2]) ∧ Chg No w w'))
    (t00 : 0 ≤ now) (t01 : now ≤ 1099511627776) (s0 : -1 ≤ since) (s1 : since ≤ 1099511627776) (t0 : Array Value) (hz : t0.size = 151) (ht0 : t0[0]? = some (.pointer (some ⟨d, 0, none⟩))) (ht1 : t0[1]? = some (.int .i64 now)) (ht2 : t0[2]? = some (.int .i64 ready)) (ht11 : t0[11]? = some (.int .i64 b)) (Q : Exit → Act → World → Prop) : RStep Tryz.prog R_r8 (lay_r8 bu ini li rd d since most now ready b) t0 (fun L => W8 X since most (nextMode since most now (over b ready)).1 (nextMode since most now (over b ready)).2 (L 20)) Q 15 := by
  intro L o a w ho hL hd hI
  have _ := hX
  have _ := HV
  have _ := HM
  have _ := t00
  have _ := t01
  have _ := s0
  have _ := s1
  have _ := ht0
  have _ := ht1
  have _ := ht11
  have f2 : a.tmps[2]? = some (.int .i64 ready) := hI.from ht2 rfl
  have h : R_r8[15]? = some R_r8[15] := rfl
  conv at h => rhs; arg 1; whnf
  simp only [wpOp, h]
  rw [if_pos (by rfl)]
  left
  go_simp
  exact hI.put (r8_nodup bu ini li rd d since most now ready b) 15 ho hd _ _ _ rfl (.inr rfl) (by intro e he; cases he; exact hz ▸ (by decide : (75 : Nat) < 151)) hI.wd
theorem r8_16 (bu ini li rd : Int) (d g : Nat) (since most last now ready b : Int) (X : Int → Int → World → Prop) (hX : Xo bu ini li rd d g last X) (HV : Hid (∀ (want ready : Int) (w : World), Calls Tryz.prog 97 #[.agg (ca bu ini li rd), .int .i64 want, .int .i64 ready] w fun e w' => e = .returned (.bool (over want ready)) ∧ Chg No w w'))
    (HM : Hid (∀ (since most now : Int) (over : Bool) (w : World), 0 ≤ now → now ≤ 1099511627776 → -1 ≤ since → since ≤ 1099511627776 → Calls Tryz.prog 96 #[.agg (ca bu ini li rd), .agg #[.int .i64 since, .int .i64 most], .int .i64 now, .bool over] w fun e w' => e = .returned (.agg #[.int .i64 (nextMode since most now over).1, .int .i64 (nextMode since most now over).2]) ∧ Chg No w w'))
    (t00 : 0 ≤ now) (t01 : now ≤ 1099511627776) (s0 : -1 ≤ since) (s1 : since ≤ 1099511627776) (t0 : Array Value) (hz : t0.size = 151) (ht0 : t0[0]? = some (.pointer (some ⟨d, 0, none⟩))) (ht1 : t0[1]? = some (.int .i64 now)) (ht2 : t0[2]? = some (.int .i64 ready)) (ht11 : t0[11]? = some (.int .i64 b)) (Q : Exit → Act → World → Prop) : RStep Tryz.prog R_r8 (lay_r8 bu ini li rd d since most now ready b) t0 (fun L => W8 X since most (nextMode since most now (over b ready)).1 (nextMode since most now (over b ready)).2 (L 20)) Q 16 := by
  intro L o a w ho hL hd hI
  have _ := HM
  have _ := t00
  have _ := t01
  have _ := s0
  have _ := s1
  have _ := ht0
  have _ := ht1
  have _ := ht2
  have _ := ht11
  have d13 : L 13 = true := dep_spec ho hd (k := 13) (by kernel_rfl)
  have f73 : a.tmps[73]? = some (.agg (ca bu ini li rd)) := hI.at 13 rfl d13
  have d14 : L 14 = true := dep_spec ho hd (k := 14) (by kernel_rfl)
  have f74 : a.tmps[74]? = some (.int .i64 b) := hI.at 14 rfl d14
  have d15 : L 15 = true := dep_spec ho hd (k := 15) (by kernel_rfl)
  have f75 : a.tmps[75]? = some (.int .i64 ready) := hI.at 15 rfl d15
  have z20 : L 20 = false := by
    cases q20 : L 20 with
    | false => rfl
    | true =>
      have q16 : L 16 = true := hI.tr q20 (by kernel_rfl)
      rw [hL] at q16; cases q16
  have hw : W8 X since most (nextMode since most now (over b ready)).1 (nextMode since most now (over b ready)).2 (L 20) w := hI.wd
  rw [z20] at hw
  have h : R_r8[16]? = some R_r8[16] := rfl
  conv at h => rhs; arg 1; whnf
  simp only [wpOp, h]
  rw [if_pos (by rfl)]
  left
  go_simp
  refine (HV.out _ _ _).mono ?_
  rintro e w' ⟨rfl, hc⟩
  have HW : W8 X since most (nextMode since most now (over b ready)).1 (nextMode since most now (over b ready)).2 (L 20) w' := by rw [z20]; exact hX.no _ _ _ _ hw.out hc
  exact hI.put (r8_nodup bu ini li rd d since most now ready b) 16 ho hd _ _ _ rfl (.inr rfl) (by intro e he; cases he; exact hz ▸ (by decide : (76 : Nat) < 151)) HW
theorem r8_17 (bu ini li rd : Int) (d g : Nat) (since most last now ready b : Int) (X : Int → Int → World → Prop) (hX : Xo bu ini li rd d g last X) (HV : Hid (∀ (want ready : Int) (w : World), Calls Tryz.prog 97 #[.agg (ca bu ini li rd), .int .i64 want, .int .i64 ready] w fun e w' => e = .returned (.bool (over want ready)) ∧ Chg No w w'))
    (HM : Hid (∀ (since most now : Int) (over : Bool) (w : World), 0 ≤ now → now ≤ 1099511627776 → -1 ≤ since → since ≤ 1099511627776 → Calls Tryz.prog 96 #[.agg (ca bu ini li rd), .agg #[.int .i64 since, .int .i64 most], .int .i64 now, .bool over] w fun e w' => e = .returned (.agg #[.int .i64 (nextMode since most now over).1, .int .i64 (nextMode since most now over).2]) ∧ Chg No w w'))
    (t00 : 0 ≤ now) (t01 : now ≤ 1099511627776) (s0 : -1 ≤ since) (s1 : since ≤ 1099511627776) (t0 : Array Value) (hz : t0.size = 151) (ht0 : t0[0]? = some (.pointer (some ⟨d, 0, none⟩))) (ht1 : t0[1]? = some (.int .i64 now)) (ht2 : t0[2]? = some (.int .i64 ready)) (ht11 : t0[11]? = some (.int .i64 b)) (Q : Exit → Act → World → Prop) : RStep Tryz.prog R_r8 (lay_r8 bu ini li rd d since most now ready b) t0 (fun L => W8 X since most (nextMode since most now (over b ready)).1 (nextMode since most now (over b ready)).2 (L 20)) Q 17 := by
  intro L o a w ho hL hd hI
  have _ := HV
  have _ := ht0
  have _ := ht1
  have _ := ht2
  have _ := ht11
  have d4 : L 4 = true := dep_spec ho hd (k := 4) (by kernel_rfl)
  have f64 : a.tmps[64]? = some (.agg (ca bu ini li rd)) := hI.at 4 rfl d4
  have d8 : L 8 = true := dep_spec ho hd (k := 8) (by kernel_rfl)
  have f68 : a.tmps[68]? = some (.agg #[.int .i64 since, .int .i64 most]) := hI.at 8 rfl d8
  have d9 : L 9 = true := dep_spec ho hd (k := 9) (by kernel_rfl)
  have f69 : a.tmps[69]? = some (.int .i64 now) := hI.at 9 rfl d9
  have d16 : L 16 = true := dep_spec ho hd (k := 16) (by kernel_rfl)
  have f76 : a.tmps[76]? = some (.bool (over b ready)) := hI.at 16 rfl d16
  have z20 : L 20 = false := by
    cases q20 : L 20 with
    | false => rfl
    | true =>
      have q17 : L 17 = true := hI.tr q20 (by kernel_rfl)
      rw [hL] at q17; cases q17
  have hw : W8 X since most (nextMode since most now (over b ready)).1 (nextMode since most now (over b ready)).2 (L 20) w := hI.wd
  rw [z20] at hw
  have h : R_r8[17]? = some R_r8[17] := rfl
  conv at h => rhs; arg 1; whnf
  simp only [wpOp, h]
  rw [if_pos (by rfl)]
  left
  go_simp
  refine (HM.out _ _ _ _ _ t00 t01 s0 s1).mono ?_
  rintro e w' ⟨rfl, hc⟩
  have HW : W8 X since most (nextMode since most now (over b ready)).1 (nextMode since most now (over b ready)).2 (L 20) w' := by rw [z20]; exact hX.no _ _ _ _ hw.out hc
  exact hI.put (r8_nodup bu ini li rd d since most now ready b) 17 ho hd _ _ _ rfl (.inr rfl) (by intro e he; cases he; exact hz ▸ (by decide : (77 : Nat) < 151)) HW
theorem r8_18 (bu ini li rd : Int) (d g : Nat) (since most last now ready b : Int) (X : Int → Int → World → Prop) (hX : Xo bu ini li rd d g last X) (HV : Hid (∀ (want ready : Int) (w : World), Calls Tryz.prog 97 #[.agg (ca bu ini li rd), .int .i64 want, .int .i64 ready] w fun e w' => e = .returned (.bool (over want ready)) ∧ Chg No w w'))
    (HM : Hid (∀ (since most now : Int) (over : Bool) (w : World), 0 ≤ now → now ≤ 1099511627776 → -1 ≤ since → since ≤ 1099511627776 → Calls Tryz.prog 96 #[.agg (ca bu ini li rd), .agg #[.int .i64 since, .int .i64 most], .int .i64 now, .bool over] w fun e w' => e = .returned (.agg #[.int .i64 (nextMode since most now over).1, .int .i64 (nextMode since most now over).2]) ∧ Chg No w w'))
    (t00 : 0 ≤ now) (t01 : now ≤ 1099511627776) (s0 : -1 ≤ since) (s1 : since ≤ 1099511627776) (t0 : Array Value) (hz : t0.size = 151) (ht0 : t0[0]? = some (.pointer (some ⟨d, 0, none⟩))) (ht1 : t0[1]? = some (.int .i64 now)) (ht2 : t0[2]? = some (.int .i64 ready)) (ht11 : t0[11]? = some (.int .i64 b)) (Q : Exit → Act → World → Prop) : RStep Tryz.prog R_r8 (lay_r8 bu ini li rd d since most now ready b) t0 (fun L => W8 X since most (nextMode since most now (over b ready)).1 (nextMode since most now (over b ready)).2 (L 20)) Q 18 := by
  intro L o a w ho hL hd hI
  have _ := hX
  have _ := HV
  have _ := HM
  have _ := t00
  have _ := t01
  have _ := s0
  have _ := s1
  have _ := ht0
  have _ := ht1
  have _ := ht2
  have _ := ht11
  have d0 : L 0 = true := dep_spec ho hd (k := 0) (by kernel_rfl)
  have f60 : a.tmps[60]? = some (.pointer (some ⟨d, 0, none⟩)) := hI.at 0 rfl d0
  have h : R_r8[18]? = some R_r8[18] := rfl
  conv at h => rhs; arg 1; whnf
  simp only [wpOp, h]
  rw [if_pos (by rfl)]
  left
  go_simp
  exact hI.put (r8_nodup bu ini li rd d since most now ready b) 18 ho hd _ _ _ rfl (.inr rfl) (by intro e he; cases he; exact hz ▸ (by decide : (78 : Nat) < 151)) hI.wd
theorem r8_19 (bu ini li rd : Int) (d g : Nat) (since most last now ready b : Int) (X : Int → Int → World → Prop) (hX : Xo bu ini li rd d g last X) (HV : Hid (∀ (want ready : Int) (w : World), Calls Tryz.prog 97 #[.agg (ca bu ini li rd), .int .i64 want, .int .i64 ready] w fun e w' => e = .returned (.bool (over want ready)) ∧ Chg No w w'))
    (HM : Hid (∀ (since most now : Int) (over : Bool) (w : World), 0 ≤ now → now ≤ 1099511627776 → -1 ≤ since → since ≤ 1099511627776 → Calls Tryz.prog 96 #[.agg (ca bu ini li rd), .agg #[.int .i64 since, .int .i64 most], .int .i64 now, .bool over] w fun e w' => e = .returned (.agg #[.int .i64 (nextMode since most now over).1, .int .i64 (nextMode since most now over).2]) ∧ Chg No w w'))
    (t00 : 0 ≤ now) (t01 : now ≤ 1099511627776) (s0 : -1 ≤ since) (s1 : since ≤ 1099511627776) (t0 : Array Value) (hz : t0.size = 151) (ht0 : t0[0]? = some (.pointer (some ⟨d, 0, none⟩))) (ht1 : t0[1]? = some (.int .i64 now)) (ht2 : t0[2]? = some (.int .i64 ready)) (ht11 : t0[11]? = some (.int .i64 b)) (Q : Exit → Act → World → Prop) : RStep Tryz.prog R_r8 (lay_r8 bu ini li rd d since most now ready b) t0 (fun L => W8 X since most (nextMode since most now (over b ready)).1 (nextMode since most now (over b ready)).2 (L 20)) Q 19 := by
  intro L o a w ho hL hd hI
  have _ := hX
  have _ := HV
  have _ := HM
  have _ := t00
  have _ := t01
  have _ := s0
  have _ := s1
  have _ := ht0
  have _ := ht1
  have _ := ht2
  have _ := ht11
  have d18 : L 18 = true := dep_spec ho hd (k := 18) (by kernel_rfl)
  have f78 : a.tmps[78]? = some (.pointer (some ⟨d, 0, none⟩)) := hI.at 18 rfl d18
  have h : R_r8[19]? = some R_r8[19] := rfl
  conv at h => rhs; arg 1; whnf
  simp only [wpOp, h]
  rw [if_pos (by rfl)]
  left
  go_simp
  exact hI.put (r8_nodup bu ini li rd d since most now ready b) 19 ho hd _ _ _ rfl (.inr rfl) (by intro e he; cases he; exact hz ▸ (by decide : (79 : Nat) < 151)) hI.wd
theorem r8_20 (bu ini li rd : Int) (d g : Nat) (since most last now ready b : Int) (X : Int → Int → World → Prop) (hX : Xo bu ini li rd d g last X) (HV : Hid (∀ (want ready : Int) (w : World), Calls Tryz.prog 97 #[.agg (ca bu ini li rd), .int .i64 want, .int .i64 ready] w fun e w' => e = .returned (.bool (over want ready)) ∧ Chg No w w'))
    (HM : Hid (∀ (since most now : Int) (over : Bool) (w : World), 0 ≤ now → now ≤ 1099511627776 → -1 ≤ since → since ≤ 1099511627776 → Calls Tryz.prog 96 #[.agg (ca bu ini li rd), .agg #[.int .i64 since, .int .i64 most], .int .i64 now, .bool over] w fun e w' => e = .returned (.agg #[.int .i64 (nextMode since most now over).1, .int .i64 (nextMode since most now over).2]) ∧ Chg No w w'))
    (t00 : 0 ≤ now) (t01 : now ≤ 1099511627776) (s0 : -1 ≤ since) (s1 : since ≤ 1099511627776) (t0 : Array Value) (hz : t0.size = 151) (ht0 : t0[0]? = some (.pointer (some ⟨d, 0, none⟩))) (ht1 : t0[1]? = some (.int .i64 now)) (ht2 : t0[2]? = some (.int .i64 ready)) (ht11 : t0[11]? = some (.int .i64 b)) (Q : Exit → Act → World → Prop) : RStep Tryz.prog R_r8 (lay_r8 bu ini li rd d since most now ready b) t0 (fun L => W8 X since most (nextMode since most now (over b ready)).1 (nextMode since most now (over b ready)).2 (L 20)) Q 20 := by
  intro L o a w ho hL hd hI
  have _ := HV
  have _ := HM
  have _ := t00
  have _ := t01
  have _ := s0
  have _ := s1
  have _ := hz
  have _ := ht0
  have _ := ht1
  have _ := ht2
  have _ := ht11
  have d19 : L 19 = true := dep_spec ho hd (k := 19) (by kernel_rfl)
  have f79 : a.tmps[79]? = some (.pointer (some ⟨d, 21, none⟩)) := hI.at 19 rfl d19
  have d17 : L 17 = true := dep_spec ho hd (k := 17) (by kernel_rfl)
  have f77 : a.tmps[77]? = some (.agg #[.int .i64 (nextMode since most now (over b ready)).1, .int .i64 (nextMode since most now (over b ready)).2]) := hI.at 17 rfl d17
  have z20 : L 20 = false := hL
  have hw : W8 X since most (nextMode since most now (over b ready)).1 (nextMode since most now (over b ready)).2 (L 20) w := hI.wd
  rw [z20] at hw
  have h : R_r8[20]? = some R_r8[20] := rfl
  conv at h => rhs; arg 1; whnf
  simp only [wpOp, h]
  rw [if_pos (by rfl)]
  left
  have hb := hX.blk _ _ _ hw.out
  have c21 : w.cell? ⟨d, 21, none⟩ = some (.int .i64 since) := by rw [hb.cell]; rfl
  have c22 : w.cell? ⟨d, 22, none⟩ = some (.int .i64 most) := by rw [hb.cell]; rfl
  have g21 := hb.free 21
  have g22 := hb.free 22
  clear hb
  go_simp
  have HW : W8 X since most (nextMode since most now (over b ready)).1 (nextMode since most now (over b ready)).2 true _ := hX.set _ _ (nextMode since most now (over b ready)).1 (nextMode since most now (over b ready)).2 _ hw.out
  have hp := hI.put (r8_nodup bu ini li rd d since most now ready b) 20 ho hd none undef undef rfl (.inl rfl) (by intro e he; cases he) HW
  exact hp
theorem r8_step (bu ini li rd : Int) (d g : Nat) (since most last now ready b : Int) (X : Int → Int → World → Prop) (hX : Xo bu ini li rd d g last X) (HV : Hid (∀ (want ready : Int) (w : World), Calls Tryz.prog 97 #[.agg (ca bu ini li rd), .int .i64 want, .int .i64 ready] w fun e w' => e = .returned (.bool (over want ready)) ∧ Chg No w w'))
    (HM : Hid (∀ (since most now : Int) (over : Bool) (w : World), 0 ≤ now → now ≤ 1099511627776 → -1 ≤ since → since ≤ 1099511627776 → Calls Tryz.prog 96 #[.agg (ca bu ini li rd), .agg #[.int .i64 since, .int .i64 most], .int .i64 now, .bool over] w fun e w' => e = .returned (.agg #[.int .i64 (nextMode since most now over).1, .int .i64 (nextMode since most now over).2]) ∧ Chg No w w'))
    (t00 : 0 ≤ now) (t01 : now ≤ 1099511627776) (s0 : -1 ≤ since) (s1 : since ≤ 1099511627776) (t0 : Array Value) (hz : t0.size = 151) (ht0 : t0[0]? = some (.pointer (some ⟨d, 0, none⟩))) (ht1 : t0[1]? = some (.int .i64 now)) (ht2 : t0[2]? = some (.int .i64 ready)) (ht11 : t0[11]? = some (.int .i64 b)) (Q : Exit → Act → World → Prop) : ∀ i, i < 21 → RStep Tryz.prog R_r8 (lay_r8 bu ini li rd d since most now ready b) t0 (fun L => W8 X since most (nextMode since most now (over b ready)).1 (nextMode since most now (over b ready)).2 (L 20)) Q i
  | 0, _ => r8_0 bu ini li rd d g since most last now ready b X hX HV HM t00 t01 s0 s1 t0 hz ht0 ht1 ht2 ht11 Q
  | 1, _ => r8_1 bu ini li rd d g since most last now ready b X hX HV HM t00 t01 s0 s1 t0 hz ht0 ht1 ht2 ht11 Q
  | 2, _ => r8_2 bu ini li rd d g since most last now ready b X hX HV HM t00 t01 s0 s1 t0 hz ht0 ht1 ht2 ht11 Q
  | 3, _ => r8_3 bu ini li rd d g since most last now ready b X hX HV HM t00 t01 s0 s1 t0 hz ht0 ht1 ht2 ht11 Q
  | 4, _ => r8_4 bu ini li rd d g since most last now ready b X hX HV HM t00 t01 s0 s1 t0 hz ht0 ht1 ht2 ht11 Q
  | 5, _ => r8_5 bu ini li rd d g since most last now ready b X hX HV HM t00 t01 s0 s1 t0 hz ht0 ht1 ht2 ht11 Q
  | 6, _ => r8_6 bu ini li rd d g since most last now ready b X hX HV HM t00 t01 s0 s1 t0 hz ht0 ht1 ht2 ht11 Q
  | 7, _ => r8_7 bu ini li rd d g since most last now ready b X hX HV HM t00 t01 s0 s1 t0 hz ht0 ht1 ht2 ht11 Q
  | 8, _ => r8_8 bu ini li rd d g since most last now ready b X hX HV HM t00 t01 s0 s1 t0 hz ht0 ht1 ht2 ht11 Q
  | 9, _ => r8_9 bu ini li rd d g since most last now ready b X hX HV HM t00 t01 s0 s1 t0 hz ht0 ht1 ht2 ht11 Q
  | 10, _ => r8_10 bu ini li rd d g since most last now ready b X hX HV HM t00 t01 s0 s1 t0 hz ht0 ht1 ht2 ht11 Q
  | 11, _ => r8_11 bu ini li rd d g since most last now ready b X hX HV HM t00 t01 s0 s1 t0 hz ht0 ht1 ht2 ht11 Q
  | 12, _ => r8_12 bu ini li rd d g since most last now ready b X hX HV HM t00 t01 s0 s1 t0 hz ht0 ht1 ht2 ht11 Q
  | 13, _ => r8_13 bu ini li rd d g since most last now ready b X hX HV HM t00 t01 s0 s1 t0 hz ht0 ht1 ht2 ht11 Q
  | 14, _ => r8_14 bu ini li rd d g since most last now ready b X hX HV HM t00 t01 s0 s1 t0 hz ht0 ht1 ht2 ht11 Q
  | 15, _ => r8_15 bu ini li rd d g since most last now ready b X hX HV HM t00 t01 s0 s1 t0 hz ht0 ht1 ht2 ht11 Q
  | 16, _ => r8_16 bu ini li rd d g since most last now ready b X hX HV HM t00 t01 s0 s1 t0 hz ht0 ht1 ht2 ht11 Q
  | 17, _ => r8_17 bu ini li rd d g since most last now ready b X hX HV HM t00 t01 s0 s1 t0 hz ht0 ht1 ht2 ht11 Q
  | 18, _ => r8_18 bu ini li rd d g since most last now ready b X hX HV HM t00 t01 s0 s1 t0 hz ht0 ht1 ht2 ht11 Q
  | 19, _ => r8_19 bu ini li rd d g since most last now ready b X hX HV HM t00 t01 s0 s1 t0 hz ht0 ht1 ht2 ht11 Q
  | 20, _ => r8_20 bu ini li rd d g since most last now ready b X hX HV HM t00 t01 s0 s1 t0 hz ht0 ht1 ht2 ht11 Q
  | k + 21, h => absurd h (by omega)
theorem r8_wp (bu ini li rd : Int) (d g : Nat) (since most last now ready b : Int) (X : Int → Int → World → Prop) (hX : Xo bu ini li rd d g last X) (HV : Hid (∀ (want ready : Int) (w : World), Calls Tryz.prog 97 #[.agg (ca bu ini li rd), .int .i64 want, .int .i64 ready] w fun e w' => e = .returned (.bool (over want ready)) ∧ Chg No w w'))
    (HM : Hid (∀ (since most now : Int) (over : Bool) (w : World), 0 ≤ now → now ≤ 1099511627776 → -1 ≤ since → since ≤ 1099511627776 → Calls Tryz.prog 96 #[.agg (ca bu ini li rd), .agg #[.int .i64 since, .int .i64 most], .int .i64 now, .bool over] w fun e w' => e = .returned (.agg #[.int .i64 (nextMode since most now over).1, .int .i64 (nextMode since most now over).2]) ∧ Chg No w w'))
    (t00 : 0 ≤ now) (t01 : now ≤ 1099511627776) (s0 : -1 ≤ since) (s1 : since ≤ 1099511627776) (t0 : Array Value) (hz : t0.size = 151) (ht0 : t0[0]? = some (.pointer (some ⟨d, 0, none⟩))) (ht1 : t0[1]? = some (.int .i64 now)) (ht2 : t0[2]? = some (.int .i64 ready)) (ht11 : t0[11]? = some (.int .i64 b)) {id : Nat} {Q : Exit → Act → World → Prop} {w : World} (start : W8 X since most (nextMode since most now (over b ready)).1 (nextMode since most now (over b ready)).2 false w.drew) (fin : ∀ w', W8 X since most (nextMode since most now (over b ready)).1 (nextMode since most now (over b ready)).2 true w' → Q .normal ⟨puts (lay_r8 bu ini li rd d since most now ready b) t0, []⟩ w') : (Code.region id R_r8 true).wp Tryz.prog Q ⟨t0, []⟩ w :=
  wp_reg (Wd := (fun L => W8 X since most (nextMode since most now (over b ready)).1 (nextMode since most now (over b ready)).2 (L 20))) rfl r8_acyc (by rw [r8_size]; rfl) (r8_nodup bu ini li rd d since most now ready b) (by rw [r8_dsts, hz]; rfl) start (fun i hi => r8_step bu ini li rd d g since most last now ready b X hX HV HM t00 t01 s0 s1 t0 hz ht0 ht1 ht2 ht11 Q i hi) fun L w' hl hw => fin w' (by
    have hw : W8 X since most (nextMode since most now (over b ready)).1 (nextMode since most now (over b ready)).2 (L 20) w' := hw
    rwa [hl 20 (by show 20 < 21; omega)] at hw)
end
end Go.Proofs.YtdgphoemjeakaaaGreatDoor.De
