/- conf.Wrong's long region: what each operation does. -/
import Derived.Test.YtdgphoemjeakaaaGreatDoorQ05
/-! conf.Wrong's long region: what each operation does. -/
namespace Go.Proofs.YtdgphoemjeakaaaGreatDoor.W
open Go.RowKit Go.Proofs.YtdgphoemjeakaaaGreatDoor.K Go.Proofs.YtdgphoemjeakaaaGreatDoor.P
set_option maxRecDepth 100000

/-- A part's name, as the code has it. -/
noncomputable def nm (i : Nat) : Value := match (opsW[i]?).map Oper.op with
  | some (Op.build _ fs) => match fs[0]?.map Prod.snd with
    | some (Operand.const v) => v
    | _ => undef
  | _ => undef
/-- What the operations lay. -/
noncomputable def Vl (bu ini li rd : Int) (B N : Nat) : List Value := [.pointer (some ⟨B, 0, none⟩),
  .int .i64 (10000),
  .iface 2 (.int .i64 (10000)),
  .bool true,
  .agg #[nm 4, .bool true],
  .pointer (some ⟨B, 1, none⟩),
  .int .i64 (700),
  .iface 2 (.int .i64 (700)),
  .bool true,
  .agg #[nm 9, .bool true],
  .pointer (some ⟨B, 2, none⟩),
  .int .i64 (60),
  .iface 3 (.int .i64 (60)),
  .bool true,
  .agg #[nm 14, .bool true],
  .pointer (some ⟨B, 3, none⟩),
  .int .i64 (6),
  .iface 3 (.int .i64 (6)),
  .pointer (some ⟨B, 2, none⟩),
  .int .i64 (60),
  .bool true,
  .agg #[nm 21, .bool true],
  .pointer (some ⟨B, 4, none⟩),
  .int .i64 (1),
  .iface 3 (.int .i64 (1)),
  .pointer (some ⟨B, 3, none⟩),
  .int .i64 (6),
  .bool true,
  .agg #[nm 28, .bool true],
  .pointer (some ⟨B, 5, none⟩),
  .int .i64 (2000),
  .iface 2 (.int .i64 (2000)),
  .bool true,
  .agg #[nm 33, .bool true],
  .pointer (some ⟨B, 6, none⟩),
  .int .i64 (10000),
  .iface 2 (.int .i64 (10000)),
  .bool true,
  .agg #[nm 38, .bool true],
  .pointer (some ⟨B, 7, none⟩),
  .int .i64 (2000),
  .iface 2 (.int .i64 (2000)),
  .bool true,
  .agg #[nm 43, .bool true],
  .pointer (some ⟨B, 8, none⟩),
  .int .i64 (0),
  .iface 3 (.int .i64 (0)),
  .bool true,
  .agg #[nm 48, .bool true],
  .pointer (some ⟨B, 9, none⟩),
  .int .i64 (0),
  .bool true,
  .bool true,
  undef,
  undef,
  undef,
  undef,
  undef,
  undef,
  undef,
  .bool true,
  .agg #[nm 61, .bool true],
  .pointer (some ⟨B, 10, none⟩),
  .int .i64 (ini),
  .iface 3 (.int .i64 (ini)),
  .int .i64 100,
  .bool true,
  .agg #[nm 67, .bool true],
  .pointer (some ⟨B, 11, none⟩),
  .int .i64 (30),
  .iface 3 (.int .i64 (30)),
  .bool true,
  .agg #[nm 72, .bool true],
  .pointer (some ⟨B, 12, none⟩),
  .int .i64 (0),
  .iface 3 (.int .i64 (0)),
  .bool true,
  .agg #[nm 77, .bool true],
  .pointer (some ⟨B, 13, none⟩),
  .int .i64 (bu),
  .bool (bu == -1000),
  .bool (bu == -1000),
  if bu = -1000 then undef else .pointer (some ⟨B, 13, none⟩),
  if bu = -1000 then undef else .int .i64 (bu),
  if bu = -1000 then undef else .iface 2 (.int .i64 (bu)),
  if bu = -1000 then undef else .bool true,
  .bool true,
  .agg #[nm 87, .bool true],
  .pointer (some ⟨B, 14, none⟩),
  .int .i64 (li),
  .iface 3 (.int .i64 (li)),
  .bool true,
  .agg #[nm 92, .bool true],
  .pointer (some ⟨B, 15, none⟩),
  .int .i64 (100),
  .iface 3 (.int .i64 (100)),
  .bool true,
  .agg #[nm 97, .bool true],
  .pointer (some ⟨B, 16, none⟩),
  .int .i64 (60),
  .iface 3 (.int .i64 (60)),
  .bool true,
  .agg #[nm 102, .bool true],
  .pointer (some ⟨B, 17, none⟩),
  .int .i64 (rd),
  .iface 3 (.int .i64 (rd)),
  .bool true,
  .agg #[nm 107, .bool true],
  .pointer (some ⟨B, 18, none⟩),
  .int .i64 (0),
  .iface 3 (.int .i64 (0)),
  .bool true,
  .agg #[nm 112, .bool true],
  .pointer (some ⟨B, 19, none⟩),
  .int .i64 (0),
  .iface 3 (.int .i64 (0)),
  .bool true,
  .agg #[nm 117, .bool true],
  .slice (some ⟨N, 0, none⟩) 20 20,
  .int .i64 20,
  .int .i64 0]
noncomputable def V (bu ini li rd : Int) (B N : Nat) (k : Nat) : Value := (Vl bu ini li rd B N).getD k undef
/-- The parts, in memory. -/
noncomputable def parts : Array Value := #[nm 4, .bool true, nm 9, .bool true, nm 14, .bool true, nm 21, .bool true, nm 28, .bool true, nm 33, .bool true, nm 38, .bool true, nm 43, .bool true, nm 48, .bool true, nm 61, .bool true, nm 67, .bool true, nm 72, .bool true, nm 77, .bool true, nm 87, .bool true, nm 92, .bool true, nm 97, .bool true, nm 102, .bool true, nm 107, .bool true, nm 112, .bool true, nm 117, .bool true]

/-- What holds behind the operations of L. -/
structure Inv (bu ini li rd : Int) (B N : Nat) (t0 : Array Value) (w0 : World) (L : Nat → Bool) (a : Act) (w : World) : Prop where
  ds : a.defers = []
  sz : a.tmps.size = 141
  lb : ∀ k, 121 ≤ k → L k = false
  t1 : t0[1]? = some (.pointer (some ⟨B, 0, none⟩))
  t3 : t0[3]? = some (.int .i64 100)
  tm : ∀ j, a.tmps[j]? = if 11 ≤ j ∧ L (j - 11) = true then some (V bu ini li rd B N (j - 11)) else t0[j]?
  ch : Chg No w0 w
  blk : Blk w B (ca bu ini li rd) 24
  pre : L 118 = false → w.heap.size = N
  post : L 118 = true → Blk w N parts 126

section
variable {bu ini li rd : Int} {B N : Nat} {t0 : Array Value} {w0 : World} {L : Nat → Bool} {a : Act} {w : World} {Q : Exit → Act → World → Prop}
theorem Inv.p1 (h : Inv bu ini li rd B N t0 w0 L a w) : a.tmps[1]? = some (.pointer (some ⟨B, 0, none⟩)) := by rw [h.tm, if_neg (by omega)]; exact h.t1
theorem Inv.p3 (h : Inv bu ini li rd B N t0 w0 L a w) : a.tmps[3]? = some (.int .i64 100) := by rw [h.tm, if_neg (by omega)]; exact h.t3
theorem Inv.at (h : Inv bu ini li rd B N t0 w0 L a w) (k : Nat) (hk : L k = true) : a.tmps[k + 11]? = some (V bu ini li rd B N k) := by rw [h.tm, if_pos ⟨by omega, by simpa using hk⟩]; simp
theorem Inv.tmp (h : Inv bu ini li rd B N t0 w0 L a w) (i : Nat) (hi : i < 121) (v : Value) (hv : v = V bu ini li rd B N i) :
    ∀ j, (a.put (some (i + 11)) v).tmps[j]? = if 11 ≤ j ∧ ((j - 11 == i) || L (j - 11)) = true then some (V bu ini li rd B N (j - 11)) else t0[j]? := by
  intro j
  subst hv
  show (a.tmps.setIfInBounds (i + 11) _)[j]? = _
  have hs := h.sz
  by_cases hj : i + 11 = j
  · subst hj
    rw [Array.getElem?_setIfInBounds_self_of_lt (by omega), if_pos ⟨by omega, by simp⟩]
    simp
  · rw [Array.getElem?_setIfInBounds_ne hj, h.tm]
    by_cases h11 : 11 ≤ j
    · have : (j - 11 == i) = false := beq_eq_false_iff_ne.2 (by omega)
      simp only [this, Bool.false_or]
    · rw [if_neg (by omega), if_neg (by omega)]
theorem Inv.put (h : Inv bu ini li rd B N t0 w0 L a w) (i : Nat) (hi : i < 121) (hn : i ≠ 118) (v : Value) (hv : v = V bu ini li rd B N i) :
    Inv bu ini li rd B N t0 w0 (fun j => j == i || L j) (a.put (some (i + 11)) v) w := by
  have e118 : ((118 : Nat) == i) = false := beq_eq_false_iff_ne.2 (Ne.symm hn)
  refine ⟨h.ds, ?_, fun k hk => ?_, h.t1, h.t3, h.tmp i hi v hv, h.ch, h.blk, ?_, ?_⟩
  · show (a.tmps.setIfInBounds _ _).size = 141
    rw [Array.size_setIfInBounds, h.sz]
  · have : (k == i) = false := beq_eq_false_iff_ne.2 (by omega)
    simp only [this, Bool.false_or]
    exact h.lb k hk
  · simp only [e118, Bool.false_or]; exact h.pre
  · simp only [e118, Bool.false_or]; exact h.post
theorem Inv.slice (h : Inv bu ini li rd B N t0 w0 L a w) (hL : L 118 = false) (v : Value) (hv : v = V bu ini li rd B N 118) (cs : Array Value) (hc : cs = parts) :
    Inv bu ini li rd B N t0 w0 (fun j => j == 118 || L j) (a.put (some 129) v) (w.alloc (.cells cs 126)) := by
  subst hc
  refine ⟨h.ds, ?_, fun k hk => ?_, h.t1, h.t3, h.tmp 118 (by omega) v hv, h.ch.alloc _, h.blk.alloc _, fun h => by simp at h, fun _ => ?_⟩
  · show (a.tmps.setIfInBounds _ _).size = 141
    rw [Array.size_setIfInBounds, h.sz]
  · have : (k == 118) = false := beq_eq_false_iff_ne.2 (by omega)
    simp only [this, Bool.false_or]
    exact h.lb k hk
  · exact h.pre hL ▸ Blk.new w parts 126
end

set_option maxHeartbeats 1000000 in
theorem within_any (T : TypeId) (n lo hi : Int) (w : World) (hT : T = 2 ∨ T = 3) (h0 : lo ≤ n) (h1 : n ≤ hi) : Calls Tryz.prog 72 #[.iface T (.int .i64 n), .int .i64 lo, .int .i64 hi] w fun e w' => e = .returned (.bool true) ∧ w = w' := by
  have k0 : decide (lo ≤ n) = true := decide_eq_true h0
  have k1 : decide (n ≤ hi) = true := decide_eq_true h1
  rcases hT with rfl | rfl
  all_goals
    go_enter Tryz.func72, Tryz.ntmps72
    go_wp2
    go_ret
    exact ⟨rfl, rfl⟩
theorem yield_of {tmps : Array Value} {j t : Nat} {b : Bool} (h : (opsW[j]?).bind (·.dst) = some t) (ht : tmps[t]? = some (.bool b)) : yielded opsW tmps j = some b := by
  unfold yielded; rw [h]; simp only [Option.bind_some, ht]

section
variable (bu ini li rd : Int) (B N : Nat) (t0 : Array Value) (w0 : World) (L : Nat → Bool) (a : Act) (w : World) (Q : Exit → Act → World → Prop)
/-- What is asked of operation i. -/
def Step (i : Nat) : Prop := ∀ (bu ini li rd : Int) (B N : Nat) (t0 : Array Value) (w0 : World) (L : Nat → Bool) (a : Act) (w : World) (Q : Exit → Act → World → Prop) (o : Oper), P.Ok bu ini li rd → opsW[i]? = some o → L i = false →
  (∀ e ∈ o.after, Region.binds .any e = true → L e.on = true) → Inv bu ini li rd B N t0 w0 L a w → wpOp Tryz.prog opsW Q i (Inv bu ini li rd B N t0 w0 (fun j => j == i || L j)) a w

theorem op_0 : Step 0 := by
  intro bu ini li rd B N t0 w0 L a w Q o ok ho hL hd hI
  obtain ⟨hbu, ⟨i0, i1⟩, ⟨l0, l1⟩, r0, r1⟩ := ok
  have p1 := hI.p1
  have p3 := hI.p3
  have h : opsW[0]? = some opsW[0] := rfl
  conv at h => rhs; arg 1; whnf
  clear ho hd
  simp only [wpOp, h]
  rw [if_pos (by rfl)]
  left
  go_simp
  exact hI.put 0 (by omega) (by omega) _ rfl

theorem op_1 : Step 1 := by
  intro bu ini li rd B N t0 w0 L a w Q o ok ho hL hd hI
  obtain ⟨hbu, ⟨i0, i1⟩, ⟨l0, l1⟩, r0, r1⟩ := ok
  have d0 : L 0 = true := dep_spec ho hd (by kernel_rfl)
  have f0 : a.tmps[11]? = some (.pointer (some ⟨B, 0, none⟩)) := hI.at 0 d0
  have p1 := hI.p1
  have p3 := hI.p3
  have h : opsW[1]? = some opsW[1] := rfl
  conv at h => rhs; arg 1; whnf
  clear ho hd
  simp only [wpOp, h]
  have hc : w.cell? ⟨B, 0, none⟩ = some (.int .i64 (10000)) := hI.blk.cell 0
  rw [if_pos (by rfl)]
  left
  go_simp
  exact hI.put 1 (by omega) (by omega) _ rfl

theorem op_2 : Step 2 := by
  intro bu ini li rd B N t0 w0 L a w Q o ok ho hL hd hI
  obtain ⟨hbu, ⟨i0, i1⟩, ⟨l0, l1⟩, r0, r1⟩ := ok
  have d1 : L 1 = true := dep_spec ho hd (by kernel_rfl)
  have f1 : a.tmps[12]? = some (.int .i64 (10000)) := hI.at 1 d1
  have p1 := hI.p1
  have p3 := hI.p3
  have h : opsW[2]? = some opsW[2] := rfl
  conv at h => rhs; arg 1; whnf
  clear ho hd
  simp only [wpOp, h]
  rw [if_pos (by rfl)]
  left
  go_simp
  exact hI.put 2 (by omega) (by omega) _ rfl

theorem op_3 : Step 3 := by
  intro bu ini li rd B N t0 w0 L a w Q o ok ho hL hd hI
  obtain ⟨hbu, ⟨i0, i1⟩, ⟨l0, l1⟩, r0, r1⟩ := ok
  have d2 : L 2 = true := dep_spec ho hd (by kernel_rfl)
  have f2 : a.tmps[13]? = some (.iface 2 (.int .i64 (10000))) := hI.at 2 d2
  have p1 := hI.p1
  have p3 := hI.p3
  have h : opsW[3]? = some opsW[3] := rfl
  conv at h => rhs; arg 1; whnf
  clear ho hd
  simp only [wpOp, h]
  rw [if_pos (by rfl)]
  left
  go_simp
  refine (within_any _ _ _ _ _ (by decide) (by omega) (by omega)).mono ?_
  rintro e w' ⟨rfl, rfl⟩
  exact hI.put 3 (by omega) (by omega) _ rfl

theorem op_4 : Step 4 := by
  intro bu ini li rd B N t0 w0 L a w Q o ok ho hL hd hI
  obtain ⟨hbu, ⟨i0, i1⟩, ⟨l0, l1⟩, r0, r1⟩ := ok
  have d3 : L 3 = true := dep_spec ho hd (by kernel_rfl)
  have f3 : a.tmps[14]? = some (.bool true) := hI.at 3 d3
  have p1 := hI.p1
  have p3 := hI.p3
  have h : opsW[4]? = some opsW[4] := rfl
  conv at h => rhs; arg 1; whnf
  clear ho hd
  simp only [wpOp, h]
  rw [if_pos (by rfl)]
  left
  go_simp
  exact hI.put 4 (by omega) (by omega) _ rfl

theorem op_5 : Step 5 := by
  intro bu ini li rd B N t0 w0 L a w Q o ok ho hL hd hI
  obtain ⟨hbu, ⟨i0, i1⟩, ⟨l0, l1⟩, r0, r1⟩ := ok
  have p1 := hI.p1
  have p3 := hI.p3
  have h : opsW[5]? = some opsW[5] := rfl
  conv at h => rhs; arg 1; whnf
  clear ho hd
  simp only [wpOp, h]
  rw [if_pos (by rfl)]
  left
  go_simp
  exact hI.put 5 (by omega) (by omega) _ rfl

theorem op_6 : Step 6 := by
  intro bu ini li rd B N t0 w0 L a w Q o ok ho hL hd hI
  obtain ⟨hbu, ⟨i0, i1⟩, ⟨l0, l1⟩, r0, r1⟩ := ok
  have d5 : L 5 = true := dep_spec ho hd (by kernel_rfl)
  have f5 : a.tmps[16]? = some (.pointer (some ⟨B, 1, none⟩)) := hI.at 5 d5
  have p1 := hI.p1
  have p3 := hI.p3
  have h : opsW[6]? = some opsW[6] := rfl
  conv at h => rhs; arg 1; whnf
  clear ho hd
  simp only [wpOp, h]
  have hc : w.cell? ⟨B, 1, none⟩ = some (.int .i64 (700)) := hI.blk.cell 1
  rw [if_pos (by rfl)]
  left
  go_simp
  exact hI.put 6 (by omega) (by omega) _ rfl

theorem op_7 : Step 7 := by
  intro bu ini li rd B N t0 w0 L a w Q o ok ho hL hd hI
  obtain ⟨hbu, ⟨i0, i1⟩, ⟨l0, l1⟩, r0, r1⟩ := ok
  have d6 : L 6 = true := dep_spec ho hd (by kernel_rfl)
  have f6 : a.tmps[17]? = some (.int .i64 (700)) := hI.at 6 d6
  have p1 := hI.p1
  have p3 := hI.p3
  have h : opsW[7]? = some opsW[7] := rfl
  conv at h => rhs; arg 1; whnf
  clear ho hd
  simp only [wpOp, h]
  rw [if_pos (by rfl)]
  left
  go_simp
  exact hI.put 7 (by omega) (by omega) _ rfl

theorem op_8 : Step 8 := by
  intro bu ini li rd B N t0 w0 L a w Q o ok ho hL hd hI
  obtain ⟨hbu, ⟨i0, i1⟩, ⟨l0, l1⟩, r0, r1⟩ := ok
  have d7 : L 7 = true := dep_spec ho hd (by kernel_rfl)
  have f7 : a.tmps[18]? = some (.iface 2 (.int .i64 (700))) := hI.at 7 d7
  have p1 := hI.p1
  have p3 := hI.p3
  have h : opsW[8]? = some opsW[8] := rfl
  conv at h => rhs; arg 1; whnf
  clear ho hd
  simp only [wpOp, h]
  rw [if_pos (by rfl)]
  left
  go_simp
  refine (within_any _ _ _ _ _ (by decide) (by omega) (by omega)).mono ?_
  rintro e w' ⟨rfl, rfl⟩
  exact hI.put 8 (by omega) (by omega) _ rfl

theorem op_9 : Step 9 := by
  intro bu ini li rd B N t0 w0 L a w Q o ok ho hL hd hI
  obtain ⟨hbu, ⟨i0, i1⟩, ⟨l0, l1⟩, r0, r1⟩ := ok
  have d8 : L 8 = true := dep_spec ho hd (by kernel_rfl)
  have f8 : a.tmps[19]? = some (.bool true) := hI.at 8 d8
  have p1 := hI.p1
  have p3 := hI.p3
  have h : opsW[9]? = some opsW[9] := rfl
  conv at h => rhs; arg 1; whnf
  clear ho hd
  simp only [wpOp, h]
  rw [if_pos (by rfl)]
  left
  go_simp
  exact hI.put 9 (by omega) (by omega) _ rfl

theorem op_10 : Step 10 := by
  intro bu ini li rd B N t0 w0 L a w Q o ok ho hL hd hI
  obtain ⟨hbu, ⟨i0, i1⟩, ⟨l0, l1⟩, r0, r1⟩ := ok
  have p1 := hI.p1
  have p3 := hI.p3
  have h : opsW[10]? = some opsW[10] := rfl
  conv at h => rhs; arg 1; whnf
  clear ho hd
  simp only [wpOp, h]
  rw [if_pos (by rfl)]
  left
  go_simp
  exact hI.put 10 (by omega) (by omega) _ rfl

theorem op_11 : Step 11 := by
  intro bu ini li rd B N t0 w0 L a w Q o ok ho hL hd hI
  obtain ⟨hbu, ⟨i0, i1⟩, ⟨l0, l1⟩, r0, r1⟩ := ok
  have d10 : L 10 = true := dep_spec ho hd (by kernel_rfl)
  have f10 : a.tmps[21]? = some (.pointer (some ⟨B, 2, none⟩)) := hI.at 10 d10
  have p1 := hI.p1
  have p3 := hI.p3
  have h : opsW[11]? = some opsW[11] := rfl
  conv at h => rhs; arg 1; whnf
  clear ho hd
  simp only [wpOp, h]
  have hc : w.cell? ⟨B, 2, none⟩ = some (.int .i64 (60)) := hI.blk.cell 2
  rw [if_pos (by rfl)]
  left
  go_simp
  exact hI.put 11 (by omega) (by omega) _ rfl

theorem op_12 : Step 12 := by
  intro bu ini li rd B N t0 w0 L a w Q o ok ho hL hd hI
  obtain ⟨hbu, ⟨i0, i1⟩, ⟨l0, l1⟩, r0, r1⟩ := ok
  have d11 : L 11 = true := dep_spec ho hd (by kernel_rfl)
  have f11 : a.tmps[22]? = some (.int .i64 (60)) := hI.at 11 d11
  have p1 := hI.p1
  have p3 := hI.p3
  have h : opsW[12]? = some opsW[12] := rfl
  conv at h => rhs; arg 1; whnf
  clear ho hd
  simp only [wpOp, h]
  rw [if_pos (by rfl)]
  left
  go_simp
  exact hI.put 12 (by omega) (by omega) _ rfl

theorem op_13 : Step 13 := by
  intro bu ini li rd B N t0 w0 L a w Q o ok ho hL hd hI
  obtain ⟨hbu, ⟨i0, i1⟩, ⟨l0, l1⟩, r0, r1⟩ := ok
  have d12 : L 12 = true := dep_spec ho hd (by kernel_rfl)
  have f12 : a.tmps[23]? = some (.iface 3 (.int .i64 (60))) := hI.at 12 d12
  have p1 := hI.p1
  have p3 := hI.p3
  have h : opsW[13]? = some opsW[13] := rfl
  conv at h => rhs; arg 1; whnf
  clear ho hd
  simp only [wpOp, h]
  rw [if_pos (by rfl)]
  left
  go_simp
  refine (within_any _ _ _ _ _ (by decide) (by omega) (by omega)).mono ?_
  rintro e w' ⟨rfl, rfl⟩
  exact hI.put 13 (by omega) (by omega) _ rfl

theorem op_14 : Step 14 := by
  intro bu ini li rd B N t0 w0 L a w Q o ok ho hL hd hI
  obtain ⟨hbu, ⟨i0, i1⟩, ⟨l0, l1⟩, r0, r1⟩ := ok
  have d13 : L 13 = true := dep_spec ho hd (by kernel_rfl)
  have f13 : a.tmps[24]? = some (.bool true) := hI.at 13 d13
  have p1 := hI.p1
  have p3 := hI.p3
  have h : opsW[14]? = some opsW[14] := rfl
  conv at h => rhs; arg 1; whnf
  clear ho hd
  simp only [wpOp, h]
  rw [if_pos (by rfl)]
  left
  go_simp
  exact hI.put 14 (by omega) (by omega) _ rfl

theorem op_15 : Step 15 := by
  intro bu ini li rd B N t0 w0 L a w Q o ok ho hL hd hI
  obtain ⟨hbu, ⟨i0, i1⟩, ⟨l0, l1⟩, r0, r1⟩ := ok
  have p1 := hI.p1
  have p3 := hI.p3
  have h : opsW[15]? = some opsW[15] := rfl
  conv at h => rhs; arg 1; whnf
  clear ho hd
  simp only [wpOp, h]
  rw [if_pos (by rfl)]
  left
  go_simp
  exact hI.put 15 (by omega) (by omega) _ rfl

theorem op_16 : Step 16 := by
  intro bu ini li rd B N t0 w0 L a w Q o ok ho hL hd hI
  obtain ⟨hbu, ⟨i0, i1⟩, ⟨l0, l1⟩, r0, r1⟩ := ok
  have d15 : L 15 = true := dep_spec ho hd (by kernel_rfl)
  have f15 : a.tmps[26]? = some (.pointer (some ⟨B, 3, none⟩)) := hI.at 15 d15
  have p1 := hI.p1
  have p3 := hI.p3
  have h : opsW[16]? = some opsW[16] := rfl
  conv at h => rhs; arg 1; whnf
  clear ho hd
  simp only [wpOp, h]
  have hc : w.cell? ⟨B, 3, none⟩ = some (.int .i64 (6)) := hI.blk.cell 3
  rw [if_pos (by rfl)]
  left
  go_simp
  exact hI.put 16 (by omega) (by omega) _ rfl

theorem op_17 : Step 17 := by
  intro bu ini li rd B N t0 w0 L a w Q o ok ho hL hd hI
  obtain ⟨hbu, ⟨i0, i1⟩, ⟨l0, l1⟩, r0, r1⟩ := ok
  have d16 : L 16 = true := dep_spec ho hd (by kernel_rfl)
  have f16 : a.tmps[27]? = some (.int .i64 (6)) := hI.at 16 d16
  have p1 := hI.p1
  have p3 := hI.p3
  have h : opsW[17]? = some opsW[17] := rfl
  conv at h => rhs; arg 1; whnf
  clear ho hd
  simp only [wpOp, h]
  rw [if_pos (by rfl)]
  left
  go_simp
  exact hI.put 17 (by omega) (by omega) _ rfl

theorem op_18 : Step 18 := by
  intro bu ini li rd B N t0 w0 L a w Q o ok ho hL hd hI
  obtain ⟨hbu, ⟨i0, i1⟩, ⟨l0, l1⟩, r0, r1⟩ := ok
  have p1 := hI.p1
  have p3 := hI.p3
  have h : opsW[18]? = some opsW[18] := rfl
  conv at h => rhs; arg 1; whnf
  clear ho hd
  simp only [wpOp, h]
  rw [if_pos (by rfl)]
  left
  go_simp
  exact hI.put 18 (by omega) (by omega) _ rfl

theorem op_19 : Step 19 := by
  intro bu ini li rd B N t0 w0 L a w Q o ok ho hL hd hI
  obtain ⟨hbu, ⟨i0, i1⟩, ⟨l0, l1⟩, r0, r1⟩ := ok
  have d18 : L 18 = true := dep_spec ho hd (by kernel_rfl)
  have f18 : a.tmps[29]? = some (.pointer (some ⟨B, 2, none⟩)) := hI.at 18 d18
  have p1 := hI.p1
  have p3 := hI.p3
  have h : opsW[19]? = some opsW[19] := rfl
  conv at h => rhs; arg 1; whnf
  clear ho hd
  simp only [wpOp, h]
  have hc : w.cell? ⟨B, 2, none⟩ = some (.int .i64 (60)) := hI.blk.cell 2
  rw [if_pos (by rfl)]
  left
  go_simp
  exact hI.put 19 (by omega) (by omega) _ rfl

theorem op_20 : Step 20 := by
  intro bu ini li rd B N t0 w0 L a w Q o ok ho hL hd hI
  obtain ⟨hbu, ⟨i0, i1⟩, ⟨l0, l1⟩, r0, r1⟩ := ok
  have d17 : L 17 = true := dep_spec ho hd (by kernel_rfl)
  have f17 : a.tmps[28]? = some (.iface 3 (.int .i64 (6))) := hI.at 17 d17
  have d19 : L 19 = true := dep_spec ho hd (by kernel_rfl)
  have f19 : a.tmps[30]? = some (.int .i64 (60)) := hI.at 19 d19
  have p1 := hI.p1
  have p3 := hI.p3
  have h : opsW[20]? = some opsW[20] := rfl
  conv at h => rhs; arg 1; whnf
  clear ho hd
  simp only [wpOp, h]
  rw [if_pos (by rfl)]
  left
  go_simp
  refine (within_any _ _ _ _ _ (by decide) (by omega) (by omega)).mono ?_
  rintro e w' ⟨rfl, rfl⟩
  exact hI.put 20 (by omega) (by omega) _ rfl

theorem op_21 : Step 21 := by
  intro bu ini li rd B N t0 w0 L a w Q o ok ho hL hd hI
  obtain ⟨hbu, ⟨i0, i1⟩, ⟨l0, l1⟩, r0, r1⟩ := ok
  have d20 : L 20 = true := dep_spec ho hd (by kernel_rfl)
  have f20 : a.tmps[31]? = some (.bool true) := hI.at 20 d20
  have p1 := hI.p1
  have p3 := hI.p3
  have h : opsW[21]? = some opsW[21] := rfl
  conv at h => rhs; arg 1; whnf
  clear ho hd
  simp only [wpOp, h]
  rw [if_pos (by rfl)]
  left
  go_simp
  exact hI.put 21 (by omega) (by omega) _ rfl

theorem op_22 : Step 22 := by
  intro bu ini li rd B N t0 w0 L a w Q o ok ho hL hd hI
  obtain ⟨hbu, ⟨i0, i1⟩, ⟨l0, l1⟩, r0, r1⟩ := ok
  have p1 := hI.p1
  have p3 := hI.p3
  have h : opsW[22]? = some opsW[22] := rfl
  conv at h => rhs; arg 1; whnf
  clear ho hd
  simp only [wpOp, h]
  rw [if_pos (by rfl)]
  left
  go_simp
  exact hI.put 22 (by omega) (by omega) _ rfl

theorem op_23 : Step 23 := by
  intro bu ini li rd B N t0 w0 L a w Q o ok ho hL hd hI
  obtain ⟨hbu, ⟨i0, i1⟩, ⟨l0, l1⟩, r0, r1⟩ := ok
  have d22 : L 22 = true := dep_spec ho hd (by kernel_rfl)
  have f22 : a.tmps[33]? = some (.pointer (some ⟨B, 4, none⟩)) := hI.at 22 d22
  have p1 := hI.p1
  have p3 := hI.p3
  have h : opsW[23]? = some opsW[23] := rfl
  conv at h => rhs; arg 1; whnf
  clear ho hd
  simp only [wpOp, h]
  have hc : w.cell? ⟨B, 4, none⟩ = some (.int .i64 (1)) := hI.blk.cell 4
  rw [if_pos (by rfl)]
  left
  go_simp
  exact hI.put 23 (by omega) (by omega) _ rfl

theorem op_24 : Step 24 := by
  intro bu ini li rd B N t0 w0 L a w Q o ok ho hL hd hI
  obtain ⟨hbu, ⟨i0, i1⟩, ⟨l0, l1⟩, r0, r1⟩ := ok
  have d23 : L 23 = true := dep_spec ho hd (by kernel_rfl)
  have f23 : a.tmps[34]? = some (.int .i64 (1)) := hI.at 23 d23
  have p1 := hI.p1
  have p3 := hI.p3
  have h : opsW[24]? = some opsW[24] := rfl
  conv at h => rhs; arg 1; whnf
  clear ho hd
  simp only [wpOp, h]
  rw [if_pos (by rfl)]
  left
  go_simp
  exact hI.put 24 (by omega) (by omega) _ rfl

theorem op_25 : Step 25 := by
  intro bu ini li rd B N t0 w0 L a w Q o ok ho hL hd hI
  obtain ⟨hbu, ⟨i0, i1⟩, ⟨l0, l1⟩, r0, r1⟩ := ok
  have p1 := hI.p1
  have p3 := hI.p3
  have h : opsW[25]? = some opsW[25] := rfl
  conv at h => rhs; arg 1; whnf
  clear ho hd
  simp only [wpOp, h]
  rw [if_pos (by rfl)]
  left
  go_simp
  exact hI.put 25 (by omega) (by omega) _ rfl

theorem op_26 : Step 26 := by
  intro bu ini li rd B N t0 w0 L a w Q o ok ho hL hd hI
  obtain ⟨hbu, ⟨i0, i1⟩, ⟨l0, l1⟩, r0, r1⟩ := ok
  have d25 : L 25 = true := dep_spec ho hd (by kernel_rfl)
  have f25 : a.tmps[36]? = some (.pointer (some ⟨B, 3, none⟩)) := hI.at 25 d25
  have p1 := hI.p1
  have p3 := hI.p3
  have h : opsW[26]? = some opsW[26] := rfl
  conv at h => rhs; arg 1; whnf
  clear ho hd
  simp only [wpOp, h]
  have hc : w.cell? ⟨B, 3, none⟩ = some (.int .i64 (6)) := hI.blk.cell 3
  rw [if_pos (by rfl)]
  left
  go_simp
  exact hI.put 26 (by omega) (by omega) _ rfl

theorem op_27 : Step 27 := by
  intro bu ini li rd B N t0 w0 L a w Q o ok ho hL hd hI
  obtain ⟨hbu, ⟨i0, i1⟩, ⟨l0, l1⟩, r0, r1⟩ := ok
  have d24 : L 24 = true := dep_spec ho hd (by kernel_rfl)
  have f24 : a.tmps[35]? = some (.iface 3 (.int .i64 (1))) := hI.at 24 d24
  have d26 : L 26 = true := dep_spec ho hd (by kernel_rfl)
  have f26 : a.tmps[37]? = some (.int .i64 (6)) := hI.at 26 d26
  have p1 := hI.p1
  have p3 := hI.p3
  have h : opsW[27]? = some opsW[27] := rfl
  conv at h => rhs; arg 1; whnf
  clear ho hd
  simp only [wpOp, h]
  rw [if_pos (by rfl)]
  left
  go_simp
  refine (within_any _ _ _ _ _ (by decide) (by omega) (by omega)).mono ?_
  rintro e w' ⟨rfl, rfl⟩
  exact hI.put 27 (by omega) (by omega) _ rfl

theorem op_28 : Step 28 := by
  intro bu ini li rd B N t0 w0 L a w Q o ok ho hL hd hI
  obtain ⟨hbu, ⟨i0, i1⟩, ⟨l0, l1⟩, r0, r1⟩ := ok
  have d27 : L 27 = true := dep_spec ho hd (by kernel_rfl)
  have f27 : a.tmps[38]? = some (.bool true) := hI.at 27 d27
  have p1 := hI.p1
  have p3 := hI.p3
  have h : opsW[28]? = some opsW[28] := rfl
  conv at h => rhs; arg 1; whnf
  clear ho hd
  simp only [wpOp, h]
  rw [if_pos (by rfl)]
  left
  go_simp
  exact hI.put 28 (by omega) (by omega) _ rfl

theorem op_29 : Step 29 := by
  intro bu ini li rd B N t0 w0 L a w Q o ok ho hL hd hI
  obtain ⟨hbu, ⟨i0, i1⟩, ⟨l0, l1⟩, r0, r1⟩ := ok
  have p1 := hI.p1
  have p3 := hI.p3
  have h : opsW[29]? = some opsW[29] := rfl
  conv at h => rhs; arg 1; whnf
  clear ho hd
  simp only [wpOp, h]
  rw [if_pos (by rfl)]
  left
  go_simp
  exact hI.put 29 (by omega) (by omega) _ rfl

theorem op_30 : Step 30 := by
  intro bu ini li rd B N t0 w0 L a w Q o ok ho hL hd hI
  obtain ⟨hbu, ⟨i0, i1⟩, ⟨l0, l1⟩, r0, r1⟩ := ok
  have d29 : L 29 = true := dep_spec ho hd (by kernel_rfl)
  have f29 : a.tmps[40]? = some (.pointer (some ⟨B, 5, none⟩)) := hI.at 29 d29
  have p1 := hI.p1
  have p3 := hI.p3
  have h : opsW[30]? = some opsW[30] := rfl
  conv at h => rhs; arg 1; whnf
  clear ho hd
  simp only [wpOp, h]
  have hc : w.cell? ⟨B, 5, none⟩ = some (.int .i64 (2000)) := hI.blk.cell 5
  rw [if_pos (by rfl)]
  left
  go_simp
  exact hI.put 30 (by omega) (by omega) _ rfl

theorem op_31 : Step 31 := by
  intro bu ini li rd B N t0 w0 L a w Q o ok ho hL hd hI
  obtain ⟨hbu, ⟨i0, i1⟩, ⟨l0, l1⟩, r0, r1⟩ := ok
  have d30 : L 30 = true := dep_spec ho hd (by kernel_rfl)
  have f30 : a.tmps[41]? = some (.int .i64 (2000)) := hI.at 30 d30
  have p1 := hI.p1
  have p3 := hI.p3
  have h : opsW[31]? = some opsW[31] := rfl
  conv at h => rhs; arg 1; whnf
  clear ho hd
  simp only [wpOp, h]
  rw [if_pos (by rfl)]
  left
  go_simp
  exact hI.put 31 (by omega) (by omega) _ rfl

theorem op_32 : Step 32 := by
  intro bu ini li rd B N t0 w0 L a w Q o ok ho hL hd hI
  obtain ⟨hbu, ⟨i0, i1⟩, ⟨l0, l1⟩, r0, r1⟩ := ok
  have d31 : L 31 = true := dep_spec ho hd (by kernel_rfl)
  have f31 : a.tmps[42]? = some (.iface 2 (.int .i64 (2000))) := hI.at 31 d31
  have p1 := hI.p1
  have p3 := hI.p3
  have h : opsW[32]? = some opsW[32] := rfl
  conv at h => rhs; arg 1; whnf
  clear ho hd
  simp only [wpOp, h]
  rw [if_pos (by rfl)]
  left
  go_simp
  refine (within_any _ _ _ _ _ (by decide) (by omega) (by omega)).mono ?_
  rintro e w' ⟨rfl, rfl⟩
  exact hI.put 32 (by omega) (by omega) _ rfl

theorem op_33 : Step 33 := by
  intro bu ini li rd B N t0 w0 L a w Q o ok ho hL hd hI
  obtain ⟨hbu, ⟨i0, i1⟩, ⟨l0, l1⟩, r0, r1⟩ := ok
  have d32 : L 32 = true := dep_spec ho hd (by kernel_rfl)
  have f32 : a.tmps[43]? = some (.bool true) := hI.at 32 d32
  have p1 := hI.p1
  have p3 := hI.p3
  have h : opsW[33]? = some opsW[33] := rfl
  conv at h => rhs; arg 1; whnf
  clear ho hd
  simp only [wpOp, h]
  rw [if_pos (by rfl)]
  left
  go_simp
  exact hI.put 33 (by omega) (by omega) _ rfl

theorem op_34 : Step 34 := by
  intro bu ini li rd B N t0 w0 L a w Q o ok ho hL hd hI
  obtain ⟨hbu, ⟨i0, i1⟩, ⟨l0, l1⟩, r0, r1⟩ := ok
  have p1 := hI.p1
  have p3 := hI.p3
  have h : opsW[34]? = some opsW[34] := rfl
  conv at h => rhs; arg 1; whnf
  clear ho hd
  simp only [wpOp, h]
  rw [if_pos (by rfl)]
  left
  go_simp
  exact hI.put 34 (by omega) (by omega) _ rfl

theorem op_35 : Step 35 := by
  intro bu ini li rd B N t0 w0 L a w Q o ok ho hL hd hI
  obtain ⟨hbu, ⟨i0, i1⟩, ⟨l0, l1⟩, r0, r1⟩ := ok
  have d34 : L 34 = true := dep_spec ho hd (by kernel_rfl)
  have f34 : a.tmps[45]? = some (.pointer (some ⟨B, 6, none⟩)) := hI.at 34 d34
  have p1 := hI.p1
  have p3 := hI.p3
  have h : opsW[35]? = some opsW[35] := rfl
  conv at h => rhs; arg 1; whnf
  clear ho hd
  simp only [wpOp, h]
  have hc : w.cell? ⟨B, 6, none⟩ = some (.int .i64 (10000)) := hI.blk.cell 6
  rw [if_pos (by rfl)]
  left
  go_simp
  exact hI.put 35 (by omega) (by omega) _ rfl

theorem op_36 : Step 36 := by
  intro bu ini li rd B N t0 w0 L a w Q o ok ho hL hd hI
  obtain ⟨hbu, ⟨i0, i1⟩, ⟨l0, l1⟩, r0, r1⟩ := ok
  have d35 : L 35 = true := dep_spec ho hd (by kernel_rfl)
  have f35 : a.tmps[46]? = some (.int .i64 (10000)) := hI.at 35 d35
  have p1 := hI.p1
  have p3 := hI.p3
  have h : opsW[36]? = some opsW[36] := rfl
  conv at h => rhs; arg 1; whnf
  clear ho hd
  simp only [wpOp, h]
  rw [if_pos (by rfl)]
  left
  go_simp
  exact hI.put 36 (by omega) (by omega) _ rfl

theorem op_37 : Step 37 := by
  intro bu ini li rd B N t0 w0 L a w Q o ok ho hL hd hI
  obtain ⟨hbu, ⟨i0, i1⟩, ⟨l0, l1⟩, r0, r1⟩ := ok
  have d36 : L 36 = true := dep_spec ho hd (by kernel_rfl)
  have f36 : a.tmps[47]? = some (.iface 2 (.int .i64 (10000))) := hI.at 36 d36
  have p1 := hI.p1
  have p3 := hI.p3
  have h : opsW[37]? = some opsW[37] := rfl
  conv at h => rhs; arg 1; whnf
  clear ho hd
  simp only [wpOp, h]
  rw [if_pos (by rfl)]
  left
  go_simp
  refine (within_any _ _ _ _ _ (by decide) (by omega) (by omega)).mono ?_
  rintro e w' ⟨rfl, rfl⟩
  exact hI.put 37 (by omega) (by omega) _ rfl

theorem op_38 : Step 38 := by
  intro bu ini li rd B N t0 w0 L a w Q o ok ho hL hd hI
  obtain ⟨hbu, ⟨i0, i1⟩, ⟨l0, l1⟩, r0, r1⟩ := ok
  have d37 : L 37 = true := dep_spec ho hd (by kernel_rfl)
  have f37 : a.tmps[48]? = some (.bool true) := hI.at 37 d37
  have p1 := hI.p1
  have p3 := hI.p3
  have h : opsW[38]? = some opsW[38] := rfl
  conv at h => rhs; arg 1; whnf
  clear ho hd
  simp only [wpOp, h]
  rw [if_pos (by rfl)]
  left
  go_simp
  exact hI.put 38 (by omega) (by omega) _ rfl

theorem op_39 : Step 39 := by
  intro bu ini li rd B N t0 w0 L a w Q o ok ho hL hd hI
  obtain ⟨hbu, ⟨i0, i1⟩, ⟨l0, l1⟩, r0, r1⟩ := ok
  have p1 := hI.p1
  have p3 := hI.p3
  have h : opsW[39]? = some opsW[39] := rfl
  conv at h => rhs; arg 1; whnf
  clear ho hd
  simp only [wpOp, h]
  rw [if_pos (by rfl)]
  left
  go_simp
  exact hI.put 39 (by omega) (by omega) _ rfl

theorem op_40 : Step 40 := by
  intro bu ini li rd B N t0 w0 L a w Q o ok ho hL hd hI
  obtain ⟨hbu, ⟨i0, i1⟩, ⟨l0, l1⟩, r0, r1⟩ := ok
  have d39 : L 39 = true := dep_spec ho hd (by kernel_rfl)
  have f39 : a.tmps[50]? = some (.pointer (some ⟨B, 7, none⟩)) := hI.at 39 d39
  have p1 := hI.p1
  have p3 := hI.p3
  have h : opsW[40]? = some opsW[40] := rfl
  conv at h => rhs; arg 1; whnf
  clear ho hd
  simp only [wpOp, h]
  have hc : w.cell? ⟨B, 7, none⟩ = some (.int .i64 (2000)) := hI.blk.cell 7
  rw [if_pos (by rfl)]
  left
  go_simp
  exact hI.put 40 (by omega) (by omega) _ rfl

theorem op_41 : Step 41 := by
  intro bu ini li rd B N t0 w0 L a w Q o ok ho hL hd hI
  obtain ⟨hbu, ⟨i0, i1⟩, ⟨l0, l1⟩, r0, r1⟩ := ok
  have d40 : L 40 = true := dep_spec ho hd (by kernel_rfl)
  have f40 : a.tmps[51]? = some (.int .i64 (2000)) := hI.at 40 d40
  have p1 := hI.p1
  have p3 := hI.p3
  have h : opsW[41]? = some opsW[41] := rfl
  conv at h => rhs; arg 1; whnf
  clear ho hd
  simp only [wpOp, h]
  rw [if_pos (by rfl)]
  left
  go_simp
  exact hI.put 41 (by omega) (by omega) _ rfl

theorem op_42 : Step 42 := by
  intro bu ini li rd B N t0 w0 L a w Q o ok ho hL hd hI
  obtain ⟨hbu, ⟨i0, i1⟩, ⟨l0, l1⟩, r0, r1⟩ := ok
  have d41 : L 41 = true := dep_spec ho hd (by kernel_rfl)
  have f41 : a.tmps[52]? = some (.iface 2 (.int .i64 (2000))) := hI.at 41 d41
  have p1 := hI.p1
  have p3 := hI.p3
  have h : opsW[42]? = some opsW[42] := rfl
  conv at h => rhs; arg 1; whnf
  clear ho hd
  simp only [wpOp, h]
  rw [if_pos (by rfl)]
  left
  go_simp
  refine (within_any _ _ _ _ _ (by decide) (by omega) (by omega)).mono ?_
  rintro e w' ⟨rfl, rfl⟩
  exact hI.put 42 (by omega) (by omega) _ rfl

theorem op_43 : Step 43 := by
  intro bu ini li rd B N t0 w0 L a w Q o ok ho hL hd hI
  obtain ⟨hbu, ⟨i0, i1⟩, ⟨l0, l1⟩, r0, r1⟩ := ok
  have d42 : L 42 = true := dep_spec ho hd (by kernel_rfl)
  have f42 : a.tmps[53]? = some (.bool true) := hI.at 42 d42
  have p1 := hI.p1
  have p3 := hI.p3
  have h : opsW[43]? = some opsW[43] := rfl
  conv at h => rhs; arg 1; whnf
  clear ho hd
  simp only [wpOp, h]
  rw [if_pos (by rfl)]
  left
  go_simp
  exact hI.put 43 (by omega) (by omega) _ rfl

theorem op_44 : Step 44 := by
  intro bu ini li rd B N t0 w0 L a w Q o ok ho hL hd hI
  obtain ⟨hbu, ⟨i0, i1⟩, ⟨l0, l1⟩, r0, r1⟩ := ok
  have p1 := hI.p1
  have p3 := hI.p3
  have h : opsW[44]? = some opsW[44] := rfl
  conv at h => rhs; arg 1; whnf
  clear ho hd
  simp only [wpOp, h]
  rw [if_pos (by rfl)]
  left
  go_simp
  exact hI.put 44 (by omega) (by omega) _ rfl

theorem op_45 : Step 45 := by
  intro bu ini li rd B N t0 w0 L a w Q o ok ho hL hd hI
  obtain ⟨hbu, ⟨i0, i1⟩, ⟨l0, l1⟩, r0, r1⟩ := ok
  have d44 : L 44 = true := dep_spec ho hd (by kernel_rfl)
  have f44 : a.tmps[55]? = some (.pointer (some ⟨B, 8, none⟩)) := hI.at 44 d44
  have p1 := hI.p1
  have p3 := hI.p3
  have h : opsW[45]? = some opsW[45] := rfl
  conv at h => rhs; arg 1; whnf
  clear ho hd
  simp only [wpOp, h]
  have hc : w.cell? ⟨B, 8, none⟩ = some (.int .i64 (0)) := hI.blk.cell 8
  rw [if_pos (by rfl)]
  left
  go_simp
  exact hI.put 45 (by omega) (by omega) _ rfl

theorem op_46 : Step 46 := by
  intro bu ini li rd B N t0 w0 L a w Q o ok ho hL hd hI
  obtain ⟨hbu, ⟨i0, i1⟩, ⟨l0, l1⟩, r0, r1⟩ := ok
  have d45 : L 45 = true := dep_spec ho hd (by kernel_rfl)
  have f45 : a.tmps[56]? = some (.int .i64 (0)) := hI.at 45 d45
  have p1 := hI.p1
  have p3 := hI.p3
  have h : opsW[46]? = some opsW[46] := rfl
  conv at h => rhs; arg 1; whnf
  clear ho hd
  simp only [wpOp, h]
  rw [if_pos (by rfl)]
  left
  go_simp
  exact hI.put 46 (by omega) (by omega) _ rfl

theorem op_47 : Step 47 := by
  intro bu ini li rd B N t0 w0 L a w Q o ok ho hL hd hI
  obtain ⟨hbu, ⟨i0, i1⟩, ⟨l0, l1⟩, r0, r1⟩ := ok
  have d46 : L 46 = true := dep_spec ho hd (by kernel_rfl)
  have f46 : a.tmps[57]? = some (.iface 3 (.int .i64 (0))) := hI.at 46 d46
  have p1 := hI.p1
  have p3 := hI.p3
  have h : opsW[47]? = some opsW[47] := rfl
  conv at h => rhs; arg 1; whnf
  clear ho hd
  simp only [wpOp, h]
  rw [if_pos (by rfl)]
  left
  go_simp
  refine (within_any _ _ _ _ _ (by decide) (by omega) (by omega)).mono ?_
  rintro e w' ⟨rfl, rfl⟩
  exact hI.put 47 (by omega) (by omega) _ rfl

theorem op_48 : Step 48 := by
  intro bu ini li rd B N t0 w0 L a w Q o ok ho hL hd hI
  obtain ⟨hbu, ⟨i0, i1⟩, ⟨l0, l1⟩, r0, r1⟩ := ok
  have d47 : L 47 = true := dep_spec ho hd (by kernel_rfl)
  have f47 : a.tmps[58]? = some (.bool true) := hI.at 47 d47
  have p1 := hI.p1
  have p3 := hI.p3
  have h : opsW[48]? = some opsW[48] := rfl
  conv at h => rhs; arg 1; whnf
  clear ho hd
  simp only [wpOp, h]
  rw [if_pos (by rfl)]
  left
  go_simp
  exact hI.put 48 (by omega) (by omega) _ rfl

theorem op_49 : Step 49 := by
  intro bu ini li rd B N t0 w0 L a w Q o ok ho hL hd hI
  obtain ⟨hbu, ⟨i0, i1⟩, ⟨l0, l1⟩, r0, r1⟩ := ok
  have p1 := hI.p1
  have p3 := hI.p3
  have h : opsW[49]? = some opsW[49] := rfl
  conv at h => rhs; arg 1; whnf
  clear ho hd
  simp only [wpOp, h]
  rw [if_pos (by rfl)]
  left
  go_simp
  exact hI.put 49 (by omega) (by omega) _ rfl

theorem op_50 : Step 50 := by
  intro bu ini li rd B N t0 w0 L a w Q o ok ho hL hd hI
  obtain ⟨hbu, ⟨i0, i1⟩, ⟨l0, l1⟩, r0, r1⟩ := ok
  have d49 : L 49 = true := dep_spec ho hd (by kernel_rfl)
  have f49 : a.tmps[60]? = some (.pointer (some ⟨B, 9, none⟩)) := hI.at 49 d49
  have p1 := hI.p1
  have p3 := hI.p3
  have h : opsW[50]? = some opsW[50] := rfl
  conv at h => rhs; arg 1; whnf
  clear ho hd
  simp only [wpOp, h]
  have hc : w.cell? ⟨B, 9, none⟩ = some (.int .i64 (0)) := hI.blk.cell 9
  rw [if_pos (by rfl)]
  left
  go_simp
  exact hI.put 50 (by omega) (by omega) _ rfl

theorem op_51 : Step 51 := by
  intro bu ini li rd B N t0 w0 L a w Q o ok ho hL hd hI
  obtain ⟨hbu, ⟨i0, i1⟩, ⟨l0, l1⟩, r0, r1⟩ := ok
  have d50 : L 50 = true := dep_spec ho hd (by kernel_rfl)
  have f50 : a.tmps[61]? = some (.int .i64 (0)) := hI.at 50 d50
  have p1 := hI.p1
  have p3 := hI.p3
  have h : opsW[51]? = some opsW[51] := rfl
  conv at h => rhs; arg 1; whnf
  clear ho hd
  simp only [wpOp, h]
  rw [if_pos (by rfl)]
  left
  go_simp
  exact hI.put 51 (by omega) (by omega) _ rfl

theorem op_52 : Step 52 := by
  intro bu ini li rd B N t0 w0 L a w Q o ok ho hL hd hI
  obtain ⟨hbu, ⟨i0, i1⟩, ⟨l0, l1⟩, r0, r1⟩ := ok
  have d51 : L 51 = true := dep_spec ho hd (by kernel_rfl)
  have f51 : a.tmps[62]? = some (.bool true) := hI.at 51 d51
  have p1 := hI.p1
  have p3 := hI.p3
  have h : opsW[52]? = some opsW[52] := rfl
  conv at h => rhs; arg 1; whnf
  clear ho hd
  simp only [wpOp, h]
  rw [if_pos (by rfl)]
  left
  go_simp
  exact hI.put 52 (by omega) (by omega) _ rfl

theorem op_53 : Step 53 := by
  intro bu ini li rd B N t0 w0 L a w Q o ok ho hL hd hI
  obtain ⟨hbu, ⟨i0, i1⟩, ⟨l0, l1⟩, r0, r1⟩ := ok
  have d52 : L 52 = true := dep_spec ho hd (by kernel_rfl)
  have f52 : a.tmps[63]? = some (.bool true) := hI.at 52 d52
  have p1 := hI.p1
  have p3 := hI.p3
  have h : opsW[53]? = some opsW[53] := rfl
  conv at h => rhs; arg 1; whnf
  clear ho hd
  simp only [wpOp, h]
  have hy : yielded opsW a.tmps 52 = some true := yield_of (t := 63) rfl f52
  rw [if_neg (by simp [Region.wanted, hy])]
  exact hI.put 53 (by omega) (by omega) _ rfl

theorem op_54 : Step 54 := by
  intro bu ini li rd B N t0 w0 L a w Q o ok ho hL hd hI
  obtain ⟨hbu, ⟨i0, i1⟩, ⟨l0, l1⟩, r0, r1⟩ := ok
  have d52 : L 52 = true := dep_spec ho hd (by kernel_rfl)
  have f52 : a.tmps[63]? = some (.bool true) := hI.at 52 d52
  have d53 : L 53 = true := dep_spec ho hd (by kernel_rfl)
  have f53 : a.tmps[64]? = some (undef) := hI.at 53 d53
  have p1 := hI.p1
  have p3 := hI.p3
  have h : opsW[54]? = some opsW[54] := rfl
  conv at h => rhs; arg 1; whnf
  clear ho hd
  simp only [wpOp, h]
  have hc : w.cell? ⟨B, 9, none⟩ = some (.int .i64 (0)) := hI.blk.cell 9
  have hy : yielded opsW a.tmps 52 = some true := yield_of (t := 63) rfl f52
  rw [if_neg (by simp [Region.wanted, hy])]
  exact hI.put 54 (by omega) (by omega) _ rfl

theorem op_55 : Step 55 := by
  intro bu ini li rd B N t0 w0 L a w Q o ok ho hL hd hI
  obtain ⟨hbu, ⟨i0, i1⟩, ⟨l0, l1⟩, r0, r1⟩ := ok
  have d52 : L 52 = true := dep_spec ho hd (by kernel_rfl)
  have f52 : a.tmps[63]? = some (.bool true) := hI.at 52 d52
  have d54 : L 54 = true := dep_spec ho hd (by kernel_rfl)
  have f54 : a.tmps[65]? = some (undef) := hI.at 54 d54
  have p1 := hI.p1
  have p3 := hI.p3
  have h : opsW[55]? = some opsW[55] := rfl
  conv at h => rhs; arg 1; whnf
  clear ho hd
  simp only [wpOp, h]
  have hy : yielded opsW a.tmps 52 = some true := yield_of (t := 63) rfl f52
  rw [if_neg (by simp [Region.wanted, hy])]
  exact hI.put 55 (by omega) (by omega) _ rfl

theorem op_56 : Step 56 := by
  intro bu ini li rd B N t0 w0 L a w Q o ok ho hL hd hI
  obtain ⟨hbu, ⟨i0, i1⟩, ⟨l0, l1⟩, r0, r1⟩ := ok
  have d52 : L 52 = true := dep_spec ho hd (by kernel_rfl)
  have f52 : a.tmps[63]? = some (.bool true) := hI.at 52 d52
  have p1 := hI.p1
  have p3 := hI.p3
  have h : opsW[56]? = some opsW[56] := rfl
  conv at h => rhs; arg 1; whnf
  clear ho hd
  simp only [wpOp, h]
  have hy : yielded opsW a.tmps 52 = some true := yield_of (t := 63) rfl f52
  rw [if_neg (by simp [Region.wanted, hy])]
  exact hI.put 56 (by omega) (by omega) _ rfl

theorem op_57 : Step 57 := by
  intro bu ini li rd B N t0 w0 L a w Q o ok ho hL hd hI
  obtain ⟨hbu, ⟨i0, i1⟩, ⟨l0, l1⟩, r0, r1⟩ := ok
  have d52 : L 52 = true := dep_spec ho hd (by kernel_rfl)
  have f52 : a.tmps[63]? = some (.bool true) := hI.at 52 d52
  have d56 : L 56 = true := dep_spec ho hd (by kernel_rfl)
  have f56 : a.tmps[67]? = some (undef) := hI.at 56 d56
  have p1 := hI.p1
  have p3 := hI.p3
  have h : opsW[57]? = some opsW[57] := rfl
  conv at h => rhs; arg 1; whnf
  clear ho hd
  simp only [wpOp, h]
  have hc : w.cell? ⟨B, 8, none⟩ = some (.int .i64 (0)) := hI.blk.cell 8
  have hy : yielded opsW a.tmps 52 = some true := yield_of (t := 63) rfl f52
  rw [if_neg (by simp [Region.wanted, hy])]
  exact hI.put 57 (by omega) (by omega) _ rfl

theorem op_58 : Step 58 := by
  intro bu ini li rd B N t0 w0 L a w Q o ok ho hL hd hI
  obtain ⟨hbu, ⟨i0, i1⟩, ⟨l0, l1⟩, r0, r1⟩ := ok
  have d52 : L 52 = true := dep_spec ho hd (by kernel_rfl)
  have f52 : a.tmps[63]? = some (.bool true) := hI.at 52 d52
  have d57 : L 57 = true := dep_spec ho hd (by kernel_rfl)
  have f57 : a.tmps[68]? = some (undef) := hI.at 57 d57
  have p1 := hI.p1
  have p3 := hI.p3
  have h : opsW[58]? = some opsW[58] := rfl
  conv at h => rhs; arg 1; whnf
  clear ho hd
  simp only [wpOp, h]
  have hy : yielded opsW a.tmps 52 = some true := yield_of (t := 63) rfl f52
  rw [if_neg (by simp [Region.wanted, hy])]
  exact hI.put 58 (by omega) (by omega) _ rfl

theorem op_59 : Step 59 := by
  intro bu ini li rd B N t0 w0 L a w Q o ok ho hL hd hI
  obtain ⟨hbu, ⟨i0, i1⟩, ⟨l0, l1⟩, r0, r1⟩ := ok
  have d52 : L 52 = true := dep_spec ho hd (by kernel_rfl)
  have f52 : a.tmps[63]? = some (.bool true) := hI.at 52 d52
  have d55 : L 55 = true := dep_spec ho hd (by kernel_rfl)
  have f55 : a.tmps[66]? = some (undef) := hI.at 55 d55
  have d58 : L 58 = true := dep_spec ho hd (by kernel_rfl)
  have f58 : a.tmps[69]? = some (undef) := hI.at 58 d58
  have p1 := hI.p1
  have p3 := hI.p3
  have h : opsW[59]? = some opsW[59] := rfl
  conv at h => rhs; arg 1; whnf
  clear ho hd
  simp only [wpOp, h]
  have hy : yielded opsW a.tmps 52 = some true := yield_of (t := 63) rfl f52
  rw [if_neg (by simp [Region.wanted, hy])]
  exact hI.put 59 (by omega) (by omega) _ rfl

theorem op_60 : Step 60 := by
  intro bu ini li rd B N t0 w0 L a w Q o ok ho hL hd hI
  obtain ⟨hbu, ⟨i0, i1⟩, ⟨l0, l1⟩, r0, r1⟩ := ok
  have d52 : L 52 = true := dep_spec ho hd (by kernel_rfl)
  have f52 : a.tmps[63]? = some (.bool true) := hI.at 52 d52
  have d59 : L 59 = true := dep_spec ho hd (by kernel_rfl)
  have f59 : a.tmps[70]? = some (undef) := hI.at 59 d59
  have p1 := hI.p1
  have p3 := hI.p3
  have h : opsW[60]? = some opsW[60] := rfl
  conv at h => rhs; arg 1; whnf
  clear ho hd
  simp only [wpOp, h]
  rw [if_pos (by rfl)]
  left
  go_simp
  exact hI.put 60 (by omega) (by omega) _ rfl

theorem op_61 : Step 61 := by
  intro bu ini li rd B N t0 w0 L a w Q o ok ho hL hd hI
  obtain ⟨hbu, ⟨i0, i1⟩, ⟨l0, l1⟩, r0, r1⟩ := ok
  have d60 : L 60 = true := dep_spec ho hd (by kernel_rfl)
  have f60 : a.tmps[71]? = some (.bool true) := hI.at 60 d60
  have p1 := hI.p1
  have p3 := hI.p3
  have h : opsW[61]? = some opsW[61] := rfl
  conv at h => rhs; arg 1; whnf
  clear ho hd
  simp only [wpOp, h]
  rw [if_pos (by rfl)]
  left
  go_simp
  exact hI.put 61 (by omega) (by omega) _ rfl

theorem op_62 : Step 62 := by
  intro bu ini li rd B N t0 w0 L a w Q o ok ho hL hd hI
  obtain ⟨hbu, ⟨i0, i1⟩, ⟨l0, l1⟩, r0, r1⟩ := ok
  have p1 := hI.p1
  have p3 := hI.p3
  have h : opsW[62]? = some opsW[62] := rfl
  conv at h => rhs; arg 1; whnf
  clear ho hd
  simp only [wpOp, h]
  rw [if_pos (by rfl)]
  left
  go_simp
  exact hI.put 62 (by omega) (by omega) _ rfl

theorem op_63 : Step 63 := by
  intro bu ini li rd B N t0 w0 L a w Q o ok ho hL hd hI
  obtain ⟨hbu, ⟨i0, i1⟩, ⟨l0, l1⟩, r0, r1⟩ := ok
  have d62 : L 62 = true := dep_spec ho hd (by kernel_rfl)
  have f62 : a.tmps[73]? = some (.pointer (some ⟨B, 10, none⟩)) := hI.at 62 d62
  have p1 := hI.p1
  have p3 := hI.p3
  have h : opsW[63]? = some opsW[63] := rfl
  conv at h => rhs; arg 1; whnf
  clear ho hd
  simp only [wpOp, h]
  have hc : w.cell? ⟨B, 10, none⟩ = some (.int .i64 (ini)) := hI.blk.cell 10
  rw [if_pos (by rfl)]
  left
  go_simp
  exact hI.put 63 (by omega) (by omega) _ rfl

theorem op_64 : Step 64 := by
  intro bu ini li rd B N t0 w0 L a w Q o ok ho hL hd hI
  obtain ⟨hbu, ⟨i0, i1⟩, ⟨l0, l1⟩, r0, r1⟩ := ok
  have d63 : L 63 = true := dep_spec ho hd (by kernel_rfl)
  have f63 : a.tmps[74]? = some (.int .i64 (ini)) := hI.at 63 d63
  have p1 := hI.p1
  have p3 := hI.p3
  have h : opsW[64]? = some opsW[64] := rfl
  conv at h => rhs; arg 1; whnf
  clear ho hd
  simp only [wpOp, h]
  rw [if_pos (by rfl)]
  left
  go_simp
  exact hI.put 64 (by omega) (by omega) _ rfl

theorem op_65 : Step 65 := by
  intro bu ini li rd B N t0 w0 L a w Q o ok ho hL hd hI
  obtain ⟨hbu, ⟨i0, i1⟩, ⟨l0, l1⟩, r0, r1⟩ := ok
  have p1 := hI.p1
  have p3 := hI.p3
  have h : opsW[65]? = some opsW[65] := rfl
  conv at h => rhs; arg 1; whnf
  clear ho hd
  simp only [wpOp, h]
  rw [if_pos (by rfl)]
  left
  go_simp
  exact hI.put 65 (by omega) (by omega) _ rfl

theorem op_66 : Step 66 := by
  intro bu ini li rd B N t0 w0 L a w Q o ok ho hL hd hI
  obtain ⟨hbu, ⟨i0, i1⟩, ⟨l0, l1⟩, r0, r1⟩ := ok
  have d64 : L 64 = true := dep_spec ho hd (by kernel_rfl)
  have f64 : a.tmps[75]? = some (.iface 3 (.int .i64 (ini))) := hI.at 64 d64
  have d65 : L 65 = true := dep_spec ho hd (by kernel_rfl)
  have f65 : a.tmps[76]? = some (.int .i64 100) := hI.at 65 d65
  have p1 := hI.p1
  have p3 := hI.p3
  have h : opsW[66]? = some opsW[66] := rfl
  conv at h => rhs; arg 1; whnf
  clear ho hd
  simp only [wpOp, h]
  rw [if_pos (by rfl)]
  left
  go_simp
  refine (within_any _ _ _ _ _ (by decide) (by omega) (by omega)).mono ?_
  rintro e w' ⟨rfl, rfl⟩
  exact hI.put 66 (by omega) (by omega) _ rfl

theorem op_67 : Step 67 := by
  intro bu ini li rd B N t0 w0 L a w Q o ok ho hL hd hI
  obtain ⟨hbu, ⟨i0, i1⟩, ⟨l0, l1⟩, r0, r1⟩ := ok
  have d66 : L 66 = true := dep_spec ho hd (by kernel_rfl)
  have f66 : a.tmps[77]? = some (.bool true) := hI.at 66 d66
  have p1 := hI.p1
  have p3 := hI.p3
  have h : opsW[67]? = some opsW[67] := rfl
  conv at h => rhs; arg 1; whnf
  clear ho hd
  simp only [wpOp, h]
  rw [if_pos (by rfl)]
  left
  go_simp
  exact hI.put 67 (by omega) (by omega) _ rfl

theorem op_68 : Step 68 := by
  intro bu ini li rd B N t0 w0 L a w Q o ok ho hL hd hI
  obtain ⟨hbu, ⟨i0, i1⟩, ⟨l0, l1⟩, r0, r1⟩ := ok
  have p1 := hI.p1
  have p3 := hI.p3
  have h : opsW[68]? = some opsW[68] := rfl
  conv at h => rhs; arg 1; whnf
  clear ho hd
  simp only [wpOp, h]
  rw [if_pos (by rfl)]
  left
  go_simp
  exact hI.put 68 (by omega) (by omega) _ rfl

theorem op_69 : Step 69 := by
  intro bu ini li rd B N t0 w0 L a w Q o ok ho hL hd hI
  obtain ⟨hbu, ⟨i0, i1⟩, ⟨l0, l1⟩, r0, r1⟩ := ok
  have d68 : L 68 = true := dep_spec ho hd (by kernel_rfl)
  have f68 : a.tmps[79]? = some (.pointer (some ⟨B, 11, none⟩)) := hI.at 68 d68
  have p1 := hI.p1
  have p3 := hI.p3
  have h : opsW[69]? = some opsW[69] := rfl
  conv at h => rhs; arg 1; whnf
  clear ho hd
  simp only [wpOp, h]
  have hc : w.cell? ⟨B, 11, none⟩ = some (.int .i64 (30)) := hI.blk.cell 11
  rw [if_pos (by rfl)]
  left
  go_simp
  exact hI.put 69 (by omega) (by omega) _ rfl

theorem op_70 : Step 70 := by
  intro bu ini li rd B N t0 w0 L a w Q o ok ho hL hd hI
  obtain ⟨hbu, ⟨i0, i1⟩, ⟨l0, l1⟩, r0, r1⟩ := ok
  have d69 : L 69 = true := dep_spec ho hd (by kernel_rfl)
  have f69 : a.tmps[80]? = some (.int .i64 (30)) := hI.at 69 d69
  have p1 := hI.p1
  have p3 := hI.p3
  have h : opsW[70]? = some opsW[70] := rfl
  conv at h => rhs; arg 1; whnf
  clear ho hd
  simp only [wpOp, h]
  rw [if_pos (by rfl)]
  left
  go_simp
  exact hI.put 70 (by omega) (by omega) _ rfl

theorem op_71 : Step 71 := by
  intro bu ini li rd B N t0 w0 L a w Q o ok ho hL hd hI
  obtain ⟨hbu, ⟨i0, i1⟩, ⟨l0, l1⟩, r0, r1⟩ := ok
  have d70 : L 70 = true := dep_spec ho hd (by kernel_rfl)
  have f70 : a.tmps[81]? = some (.iface 3 (.int .i64 (30))) := hI.at 70 d70
  have p1 := hI.p1
  have p3 := hI.p3
  have h : opsW[71]? = some opsW[71] := rfl
  conv at h => rhs; arg 1; whnf
  clear ho hd
  simp only [wpOp, h]
  rw [if_pos (by rfl)]
  left
  go_simp
  refine (within_any _ _ _ _ _ (by decide) (by omega) (by omega)).mono ?_
  rintro e w' ⟨rfl, rfl⟩
  exact hI.put 71 (by omega) (by omega) _ rfl

theorem op_72 : Step 72 := by
  intro bu ini li rd B N t0 w0 L a w Q o ok ho hL hd hI
  obtain ⟨hbu, ⟨i0, i1⟩, ⟨l0, l1⟩, r0, r1⟩ := ok
  have d71 : L 71 = true := dep_spec ho hd (by kernel_rfl)
  have f71 : a.tmps[82]? = some (.bool true) := hI.at 71 d71
  have p1 := hI.p1
  have p3 := hI.p3
  have h : opsW[72]? = some opsW[72] := rfl
  conv at h => rhs; arg 1; whnf
  clear ho hd
  simp only [wpOp, h]
  rw [if_pos (by rfl)]
  left
  go_simp
  exact hI.put 72 (by omega) (by omega) _ rfl

theorem op_73 : Step 73 := by
  intro bu ini li rd B N t0 w0 L a w Q o ok ho hL hd hI
  obtain ⟨hbu, ⟨i0, i1⟩, ⟨l0, l1⟩, r0, r1⟩ := ok
  have p1 := hI.p1
  have p3 := hI.p3
  have h : opsW[73]? = some opsW[73] := rfl
  conv at h => rhs; arg 1; whnf
  clear ho hd
  simp only [wpOp, h]
  rw [if_pos (by rfl)]
  left
  go_simp
  exact hI.put 73 (by omega) (by omega) _ rfl

theorem op_74 : Step 74 := by
  intro bu ini li rd B N t0 w0 L a w Q o ok ho hL hd hI
  obtain ⟨hbu, ⟨i0, i1⟩, ⟨l0, l1⟩, r0, r1⟩ := ok
  have d73 : L 73 = true := dep_spec ho hd (by kernel_rfl)
  have f73 : a.tmps[84]? = some (.pointer (some ⟨B, 12, none⟩)) := hI.at 73 d73
  have p1 := hI.p1
  have p3 := hI.p3
  have h : opsW[74]? = some opsW[74] := rfl
  conv at h => rhs; arg 1; whnf
  clear ho hd
  simp only [wpOp, h]
  have hc : w.cell? ⟨B, 12, none⟩ = some (.int .i64 (0)) := hI.blk.cell 12
  rw [if_pos (by rfl)]
  left
  go_simp
  exact hI.put 74 (by omega) (by omega) _ rfl

theorem op_75 : Step 75 := by
  intro bu ini li rd B N t0 w0 L a w Q o ok ho hL hd hI
  obtain ⟨hbu, ⟨i0, i1⟩, ⟨l0, l1⟩, r0, r1⟩ := ok
  have d74 : L 74 = true := dep_spec ho hd (by kernel_rfl)
  have f74 : a.tmps[85]? = some (.int .i64 (0)) := hI.at 74 d74
  have p1 := hI.p1
  have p3 := hI.p3
  have h : opsW[75]? = some opsW[75] := rfl
  conv at h => rhs; arg 1; whnf
  clear ho hd
  simp only [wpOp, h]
  rw [if_pos (by rfl)]
  left
  go_simp
  exact hI.put 75 (by omega) (by omega) _ rfl

theorem op_76 : Step 76 := by
  intro bu ini li rd B N t0 w0 L a w Q o ok ho hL hd hI
  obtain ⟨hbu, ⟨i0, i1⟩, ⟨l0, l1⟩, r0, r1⟩ := ok
  have d75 : L 75 = true := dep_spec ho hd (by kernel_rfl)
  have f75 : a.tmps[86]? = some (.iface 3 (.int .i64 (0))) := hI.at 75 d75
  have p1 := hI.p1
  have p3 := hI.p3
  have h : opsW[76]? = some opsW[76] := rfl
  conv at h => rhs; arg 1; whnf
  clear ho hd
  simp only [wpOp, h]
  rw [if_pos (by rfl)]
  left
  go_simp
  refine (within_any _ _ _ _ _ (by decide) (by omega) (by omega)).mono ?_
  rintro e w' ⟨rfl, rfl⟩
  exact hI.put 76 (by omega) (by omega) _ rfl

theorem op_77 : Step 77 := by
  intro bu ini li rd B N t0 w0 L a w Q o ok ho hL hd hI
  obtain ⟨hbu, ⟨i0, i1⟩, ⟨l0, l1⟩, r0, r1⟩ := ok
  have d76 : L 76 = true := dep_spec ho hd (by kernel_rfl)
  have f76 : a.tmps[87]? = some (.bool true) := hI.at 76 d76
  have p1 := hI.p1
  have p3 := hI.p3
  have h : opsW[77]? = some opsW[77] := rfl
  conv at h => rhs; arg 1; whnf
  clear ho hd
  simp only [wpOp, h]
  rw [if_pos (by rfl)]
  left
  go_simp
  exact hI.put 77 (by omega) (by omega) _ rfl

theorem op_78 : Step 78 := by
  intro bu ini li rd B N t0 w0 L a w Q o ok ho hL hd hI
  obtain ⟨hbu, ⟨i0, i1⟩, ⟨l0, l1⟩, r0, r1⟩ := ok
  have p1 := hI.p1
  have p3 := hI.p3
  have h : opsW[78]? = some opsW[78] := rfl
  conv at h => rhs; arg 1; whnf
  clear ho hd
  simp only [wpOp, h]
  rw [if_pos (by rfl)]
  left
  go_simp
  exact hI.put 78 (by omega) (by omega) _ rfl

theorem op_79 : Step 79 := by
  intro bu ini li rd B N t0 w0 L a w Q o ok ho hL hd hI
  obtain ⟨hbu, ⟨i0, i1⟩, ⟨l0, l1⟩, r0, r1⟩ := ok
  have d78 : L 78 = true := dep_spec ho hd (by kernel_rfl)
  have f78 : a.tmps[89]? = some (.pointer (some ⟨B, 13, none⟩)) := hI.at 78 d78
  have p1 := hI.p1
  have p3 := hI.p3
  have h : opsW[79]? = some opsW[79] := rfl
  conv at h => rhs; arg 1; whnf
  clear ho hd
  simp only [wpOp, h]
  have hc : w.cell? ⟨B, 13, none⟩ = some (.int .i64 (bu)) := hI.blk.cell 13
  rw [if_pos (by rfl)]
  left
  go_simp
  exact hI.put 79 (by omega) (by omega) _ rfl

theorem op_80 : Step 80 := by
  intro bu ini li rd B N t0 w0 L a w Q o ok ho hL hd hI
  obtain ⟨hbu, ⟨i0, i1⟩, ⟨l0, l1⟩, r0, r1⟩ := ok
  have d79 : L 79 = true := dep_spec ho hd (by kernel_rfl)
  have f79 : a.tmps[90]? = some (.int .i64 (bu)) := hI.at 79 d79
  have p1 := hI.p1
  have p3 := hI.p3
  have h : opsW[80]? = some opsW[80] := rfl
  conv at h => rhs; arg 1; whnf
  clear ho hd
  simp only [wpOp, h]
  rw [if_pos (by rfl)]
  left
  go_simp
  exact hI.put 80 (by omega) (by omega) _ rfl

theorem op_81 : Step 81 := by
  intro bu ini li rd B N t0 w0 L a w Q o ok ho hL hd hI
  obtain ⟨hbu, ⟨i0, i1⟩, ⟨l0, l1⟩, r0, r1⟩ := ok
  have d80 : L 80 = true := dep_spec ho hd (by kernel_rfl)
  have f80 : a.tmps[91]? = some (.bool (bu == -1000)) := hI.at 80 d80
  have p1 := hI.p1
  have p3 := hI.p3
  have h : opsW[81]? = some opsW[81] := rfl
  conv at h => rhs; arg 1; whnf
  clear ho hd
  simp only [wpOp, h]
  rw [if_pos (by rfl)]
  left
  go_simp
  exact hI.put 81 (by omega) (by omega) _ rfl

theorem op_82 : Step 82 := by
  intro bu ini li rd B N t0 w0 L a w Q o ok ho hL hd hI
  obtain ⟨hbu, ⟨i0, i1⟩, ⟨l0, l1⟩, r0, r1⟩ := ok
  have d81 : L 81 = true := dep_spec ho hd (by kernel_rfl)
  have f81 : a.tmps[92]? = some (.bool (bu == -1000)) := hI.at 81 d81
  have p1 := hI.p1
  have p3 := hI.p3
  have h : opsW[82]? = some opsW[82] := rfl
  conv at h => rhs; arg 1; whnf
  clear ho hd
  simp only [wpOp, h]
  have hy : yielded opsW a.tmps 81 = some (bu == -1000) := yield_of (t := 92) rfl f81
  by_cases hb : bu = -1000
  · subst hb
    rw [if_neg (by simp [Region.wanted, hy])]
    exact hI.put 82 (by omega) (by omega) _ rfl
  have hb1 : (bu == -1000) = false := beq_eq_false_iff_ne.2 hb
  rw [hb1] at hy
  have hb2 : 0 ≤ bu ∧ bu ≤ 100000000 := by omega
  rw [if_pos (by simp [Region.wanted, hy])]
  left
  go_simp
  exact hI.put 82 (by omega) (by omega) _ (by simp only [V, Vl, List.getD_cons_succ, List.getD_cons_zero, if_neg hb])

theorem op_83 : Step 83 := by
  intro bu ini li rd B N t0 w0 L a w Q o ok ho hL hd hI
  obtain ⟨hbu, ⟨i0, i1⟩, ⟨l0, l1⟩, r0, r1⟩ := ok
  have d81 : L 81 = true := dep_spec ho hd (by kernel_rfl)
  have f81 : a.tmps[92]? = some (.bool (bu == -1000)) := hI.at 81 d81
  have d82 : L 82 = true := dep_spec ho hd (by kernel_rfl)
  have f82 : a.tmps[93]? = some (if bu = -1000 then undef else .pointer (some ⟨B, 13, none⟩)) := hI.at 82 d82
  have p1 := hI.p1
  have p3 := hI.p3
  have h : opsW[83]? = some opsW[83] := rfl
  conv at h => rhs; arg 1; whnf
  clear ho hd
  simp only [wpOp, h]
  have hc : w.cell? ⟨B, 13, none⟩ = some (.int .i64 (bu)) := hI.blk.cell 13
  have hy : yielded opsW a.tmps 81 = some (bu == -1000) := yield_of (t := 92) rfl f81
  by_cases hb : bu = -1000
  · subst hb
    rw [if_neg (by simp [Region.wanted, hy])]
    exact hI.put 83 (by omega) (by omega) _ rfl
  have hb1 : (bu == -1000) = false := beq_eq_false_iff_ne.2 hb
  rw [hb1] at hy
  have hb2 : 0 ≤ bu ∧ bu ≤ 100000000 := by omega
  rw [if_pos (by simp [Region.wanted, hy])]
  rw [if_neg hb] at f82
  left
  go_simp
  exact hI.put 83 (by omega) (by omega) _ (by simp only [V, Vl, List.getD_cons_succ, List.getD_cons_zero, if_neg hb])

theorem op_84 : Step 84 := by
  intro bu ini li rd B N t0 w0 L a w Q o ok ho hL hd hI
  obtain ⟨hbu, ⟨i0, i1⟩, ⟨l0, l1⟩, r0, r1⟩ := ok
  have d81 : L 81 = true := dep_spec ho hd (by kernel_rfl)
  have f81 : a.tmps[92]? = some (.bool (bu == -1000)) := hI.at 81 d81
  have d83 : L 83 = true := dep_spec ho hd (by kernel_rfl)
  have f83 : a.tmps[94]? = some (if bu = -1000 then undef else .int .i64 (bu)) := hI.at 83 d83
  have p1 := hI.p1
  have p3 := hI.p3
  have h : opsW[84]? = some opsW[84] := rfl
  conv at h => rhs; arg 1; whnf
  clear ho hd
  simp only [wpOp, h]
  have hy : yielded opsW a.tmps 81 = some (bu == -1000) := yield_of (t := 92) rfl f81
  by_cases hb : bu = -1000
  · subst hb
    rw [if_neg (by simp [Region.wanted, hy])]
    exact hI.put 84 (by omega) (by omega) _ rfl
  have hb1 : (bu == -1000) = false := beq_eq_false_iff_ne.2 hb
  rw [hb1] at hy
  have hb2 : 0 ≤ bu ∧ bu ≤ 100000000 := by omega
  rw [if_pos (by simp [Region.wanted, hy])]
  rw [if_neg hb] at f83
  left
  go_simp
  exact hI.put 84 (by omega) (by omega) _ (by simp only [V, Vl, List.getD_cons_succ, List.getD_cons_zero, if_neg hb])

theorem op_85 : Step 85 := by
  intro bu ini li rd B N t0 w0 L a w Q o ok ho hL hd hI
  obtain ⟨hbu, ⟨i0, i1⟩, ⟨l0, l1⟩, r0, r1⟩ := ok
  have d81 : L 81 = true := dep_spec ho hd (by kernel_rfl)
  have f81 : a.tmps[92]? = some (.bool (bu == -1000)) := hI.at 81 d81
  have d84 : L 84 = true := dep_spec ho hd (by kernel_rfl)
  have f84 : a.tmps[95]? = some (if bu = -1000 then undef else .iface 2 (.int .i64 (bu))) := hI.at 84 d84
  have p1 := hI.p1
  have p3 := hI.p3
  have h : opsW[85]? = some opsW[85] := rfl
  conv at h => rhs; arg 1; whnf
  clear ho hd
  simp only [wpOp, h]
  have hy : yielded opsW a.tmps 81 = some (bu == -1000) := yield_of (t := 92) rfl f81
  by_cases hb : bu = -1000
  · subst hb
    rw [if_neg (by simp [Region.wanted, hy])]
    exact hI.put 85 (by omega) (by omega) _ rfl
  have hb1 : (bu == -1000) = false := beq_eq_false_iff_ne.2 hb
  rw [hb1] at hy
  have hb2 : 0 ≤ bu ∧ bu ≤ 100000000 := by omega
  rw [if_pos (by simp [Region.wanted, hy])]
  rw [if_neg hb] at f84
  left
  go_simp
  refine (within_any _ _ _ _ _ (by decide) (by omega) (by omega)).mono ?_
  rintro e w' ⟨rfl, rfl⟩
  exact hI.put 85 (by omega) (by omega) _ (by simp only [V, Vl, List.getD_cons_succ, List.getD_cons_zero, if_neg hb])

theorem op_86 : Step 86 := by
  intro bu ini li rd B N t0 w0 L a w Q o ok ho hL hd hI
  obtain ⟨hbu, ⟨i0, i1⟩, ⟨l0, l1⟩, r0, r1⟩ := ok
  have d81 : L 81 = true := dep_spec ho hd (by kernel_rfl)
  have f81 : a.tmps[92]? = some (.bool (bu == -1000)) := hI.at 81 d81
  have d85 : L 85 = true := dep_spec ho hd (by kernel_rfl)
  have f85 : a.tmps[96]? = some (if bu = -1000 then undef else .bool true) := hI.at 85 d85
  have p1 := hI.p1
  have p3 := hI.p3
  have h : opsW[86]? = some opsW[86] := rfl
  conv at h => rhs; arg 1; whnf
  clear ho hd
  simp only [wpOp, h]
  rw [if_pos (by rfl)]
  left
  by_cases hb : bu = -1000
  · subst hb
    go_simp
    exact hI.put 86 (by omega) (by omega) _ rfl
  · have hb1 : (bu == -1000) = false := beq_eq_false_iff_ne.2 hb
    rw [hb1] at f81
    rw [if_neg hb] at f85
    go_simp
    exact hI.put 86 (by omega) (by omega) _ rfl

theorem op_87 : Step 87 := by
  intro bu ini li rd B N t0 w0 L a w Q o ok ho hL hd hI
  obtain ⟨hbu, ⟨i0, i1⟩, ⟨l0, l1⟩, r0, r1⟩ := ok
  have d86 : L 86 = true := dep_spec ho hd (by kernel_rfl)
  have f86 : a.tmps[97]? = some (.bool true) := hI.at 86 d86
  have p1 := hI.p1
  have p3 := hI.p3
  have h : opsW[87]? = some opsW[87] := rfl
  conv at h => rhs; arg 1; whnf
  clear ho hd
  simp only [wpOp, h]
  rw [if_pos (by rfl)]
  left
  go_simp
  exact hI.put 87 (by omega) (by omega) _ rfl

theorem op_88 : Step 88 := by
  intro bu ini li rd B N t0 w0 L a w Q o ok ho hL hd hI
  obtain ⟨hbu, ⟨i0, i1⟩, ⟨l0, l1⟩, r0, r1⟩ := ok
  have p1 := hI.p1
  have p3 := hI.p3
  have h : opsW[88]? = some opsW[88] := rfl
  conv at h => rhs; arg 1; whnf
  clear ho hd
  simp only [wpOp, h]
  rw [if_pos (by rfl)]
  left
  go_simp
  exact hI.put 88 (by omega) (by omega) _ rfl

theorem op_89 : Step 89 := by
  intro bu ini li rd B N t0 w0 L a w Q o ok ho hL hd hI
  obtain ⟨hbu, ⟨i0, i1⟩, ⟨l0, l1⟩, r0, r1⟩ := ok
  have d88 : L 88 = true := dep_spec ho hd (by kernel_rfl)
  have f88 : a.tmps[99]? = some (.pointer (some ⟨B, 14, none⟩)) := hI.at 88 d88
  have p1 := hI.p1
  have p3 := hI.p3
  have h : opsW[89]? = some opsW[89] := rfl
  conv at h => rhs; arg 1; whnf
  clear ho hd
  simp only [wpOp, h]
  have hc : w.cell? ⟨B, 14, none⟩ = some (.int .i64 (li)) := hI.blk.cell 14
  rw [if_pos (by rfl)]
  left
  go_simp
  exact hI.put 89 (by omega) (by omega) _ rfl

theorem op_90 : Step 90 := by
  intro bu ini li rd B N t0 w0 L a w Q o ok ho hL hd hI
  obtain ⟨hbu, ⟨i0, i1⟩, ⟨l0, l1⟩, r0, r1⟩ := ok
  have d89 : L 89 = true := dep_spec ho hd (by kernel_rfl)
  have f89 : a.tmps[100]? = some (.int .i64 (li)) := hI.at 89 d89
  have p1 := hI.p1
  have p3 := hI.p3
  have h : opsW[90]? = some opsW[90] := rfl
  conv at h => rhs; arg 1; whnf
  clear ho hd
  simp only [wpOp, h]
  rw [if_pos (by rfl)]
  left
  go_simp
  exact hI.put 90 (by omega) (by omega) _ rfl

theorem op_91 : Step 91 := by
  intro bu ini li rd B N t0 w0 L a w Q o ok ho hL hd hI
  obtain ⟨hbu, ⟨i0, i1⟩, ⟨l0, l1⟩, r0, r1⟩ := ok
  have d90 : L 90 = true := dep_spec ho hd (by kernel_rfl)
  have f90 : a.tmps[101]? = some (.iface 3 (.int .i64 (li))) := hI.at 90 d90
  have p1 := hI.p1
  have p3 := hI.p3
  have h : opsW[91]? = some opsW[91] := rfl
  conv at h => rhs; arg 1; whnf
  clear ho hd
  simp only [wpOp, h]
  rw [if_pos (by rfl)]
  left
  go_simp
  refine (within_any _ _ _ _ _ (by decide) (by omega) (by omega)).mono ?_
  rintro e w' ⟨rfl, rfl⟩
  exact hI.put 91 (by omega) (by omega) _ rfl

theorem op_92 : Step 92 := by
  intro bu ini li rd B N t0 w0 L a w Q o ok ho hL hd hI
  obtain ⟨hbu, ⟨i0, i1⟩, ⟨l0, l1⟩, r0, r1⟩ := ok
  have d91 : L 91 = true := dep_spec ho hd (by kernel_rfl)
  have f91 : a.tmps[102]? = some (.bool true) := hI.at 91 d91
  have p1 := hI.p1
  have p3 := hI.p3
  have h : opsW[92]? = some opsW[92] := rfl
  conv at h => rhs; arg 1; whnf
  clear ho hd
  simp only [wpOp, h]
  rw [if_pos (by rfl)]
  left
  go_simp
  exact hI.put 92 (by omega) (by omega) _ rfl

theorem op_93 : Step 93 := by
  intro bu ini li rd B N t0 w0 L a w Q o ok ho hL hd hI
  obtain ⟨hbu, ⟨i0, i1⟩, ⟨l0, l1⟩, r0, r1⟩ := ok
  have p1 := hI.p1
  have p3 := hI.p3
  have h : opsW[93]? = some opsW[93] := rfl
  conv at h => rhs; arg 1; whnf
  clear ho hd
  simp only [wpOp, h]
  rw [if_pos (by rfl)]
  left
  go_simp
  exact hI.put 93 (by omega) (by omega) _ rfl

theorem op_94 : Step 94 := by
  intro bu ini li rd B N t0 w0 L a w Q o ok ho hL hd hI
  obtain ⟨hbu, ⟨i0, i1⟩, ⟨l0, l1⟩, r0, r1⟩ := ok
  have d93 : L 93 = true := dep_spec ho hd (by kernel_rfl)
  have f93 : a.tmps[104]? = some (.pointer (some ⟨B, 15, none⟩)) := hI.at 93 d93
  have p1 := hI.p1
  have p3 := hI.p3
  have h : opsW[94]? = some opsW[94] := rfl
  conv at h => rhs; arg 1; whnf
  clear ho hd
  simp only [wpOp, h]
  have hc : w.cell? ⟨B, 15, none⟩ = some (.int .i64 (100)) := hI.blk.cell 15
  rw [if_pos (by rfl)]
  left
  go_simp
  exact hI.put 94 (by omega) (by omega) _ rfl

theorem op_95 : Step 95 := by
  intro bu ini li rd B N t0 w0 L a w Q o ok ho hL hd hI
  obtain ⟨hbu, ⟨i0, i1⟩, ⟨l0, l1⟩, r0, r1⟩ := ok
  have d94 : L 94 = true := dep_spec ho hd (by kernel_rfl)
  have f94 : a.tmps[105]? = some (.int .i64 (100)) := hI.at 94 d94
  have p1 := hI.p1
  have p3 := hI.p3
  have h : opsW[95]? = some opsW[95] := rfl
  conv at h => rhs; arg 1; whnf
  clear ho hd
  simp only [wpOp, h]
  rw [if_pos (by rfl)]
  left
  go_simp
  exact hI.put 95 (by omega) (by omega) _ rfl

theorem op_96 : Step 96 := by
  intro bu ini li rd B N t0 w0 L a w Q o ok ho hL hd hI
  obtain ⟨hbu, ⟨i0, i1⟩, ⟨l0, l1⟩, r0, r1⟩ := ok
  have d95 : L 95 = true := dep_spec ho hd (by kernel_rfl)
  have f95 : a.tmps[106]? = some (.iface 3 (.int .i64 (100))) := hI.at 95 d95
  have p1 := hI.p1
  have p3 := hI.p3
  have h : opsW[96]? = some opsW[96] := rfl
  conv at h => rhs; arg 1; whnf
  clear ho hd
  simp only [wpOp, h]
  rw [if_pos (by rfl)]
  left
  go_simp
  refine (within_any _ _ _ _ _ (by decide) (by omega) (by omega)).mono ?_
  rintro e w' ⟨rfl, rfl⟩
  exact hI.put 96 (by omega) (by omega) _ rfl

theorem op_97 : Step 97 := by
  intro bu ini li rd B N t0 w0 L a w Q o ok ho hL hd hI
  obtain ⟨hbu, ⟨i0, i1⟩, ⟨l0, l1⟩, r0, r1⟩ := ok
  have d96 : L 96 = true := dep_spec ho hd (by kernel_rfl)
  have f96 : a.tmps[107]? = some (.bool true) := hI.at 96 d96
  have p1 := hI.p1
  have p3 := hI.p3
  have h : opsW[97]? = some opsW[97] := rfl
  conv at h => rhs; arg 1; whnf
  clear ho hd
  simp only [wpOp, h]
  rw [if_pos (by rfl)]
  left
  go_simp
  exact hI.put 97 (by omega) (by omega) _ rfl

theorem op_98 : Step 98 := by
  intro bu ini li rd B N t0 w0 L a w Q o ok ho hL hd hI
  obtain ⟨hbu, ⟨i0, i1⟩, ⟨l0, l1⟩, r0, r1⟩ := ok
  have p1 := hI.p1
  have p3 := hI.p3
  have h : opsW[98]? = some opsW[98] := rfl
  conv at h => rhs; arg 1; whnf
  clear ho hd
  simp only [wpOp, h]
  rw [if_pos (by rfl)]
  left
  go_simp
  exact hI.put 98 (by omega) (by omega) _ rfl

theorem op_99 : Step 99 := by
  intro bu ini li rd B N t0 w0 L a w Q o ok ho hL hd hI
  obtain ⟨hbu, ⟨i0, i1⟩, ⟨l0, l1⟩, r0, r1⟩ := ok
  have d98 : L 98 = true := dep_spec ho hd (by kernel_rfl)
  have f98 : a.tmps[109]? = some (.pointer (some ⟨B, 16, none⟩)) := hI.at 98 d98
  have p1 := hI.p1
  have p3 := hI.p3
  have h : opsW[99]? = some opsW[99] := rfl
  conv at h => rhs; arg 1; whnf
  clear ho hd
  simp only [wpOp, h]
  have hc : w.cell? ⟨B, 16, none⟩ = some (.int .i64 (60)) := hI.blk.cell 16
  rw [if_pos (by rfl)]
  left
  go_simp
  exact hI.put 99 (by omega) (by omega) _ rfl

theorem op_100 : Step 100 := by
  intro bu ini li rd B N t0 w0 L a w Q o ok ho hL hd hI
  obtain ⟨hbu, ⟨i0, i1⟩, ⟨l0, l1⟩, r0, r1⟩ := ok
  have d99 : L 99 = true := dep_spec ho hd (by kernel_rfl)
  have f99 : a.tmps[110]? = some (.int .i64 (60)) := hI.at 99 d99
  have p1 := hI.p1
  have p3 := hI.p3
  have h : opsW[100]? = some opsW[100] := rfl
  conv at h => rhs; arg 1; whnf
  clear ho hd
  simp only [wpOp, h]
  rw [if_pos (by rfl)]
  left
  go_simp
  exact hI.put 100 (by omega) (by omega) _ rfl

theorem op_101 : Step 101 := by
  intro bu ini li rd B N t0 w0 L a w Q o ok ho hL hd hI
  obtain ⟨hbu, ⟨i0, i1⟩, ⟨l0, l1⟩, r0, r1⟩ := ok
  have d100 : L 100 = true := dep_spec ho hd (by kernel_rfl)
  have f100 : a.tmps[111]? = some (.iface 3 (.int .i64 (60))) := hI.at 100 d100
  have p1 := hI.p1
  have p3 := hI.p3
  have h : opsW[101]? = some opsW[101] := rfl
  conv at h => rhs; arg 1; whnf
  clear ho hd
  simp only [wpOp, h]
  rw [if_pos (by rfl)]
  left
  go_simp
  refine (within_any _ _ _ _ _ (by decide) (by omega) (by omega)).mono ?_
  rintro e w' ⟨rfl, rfl⟩
  exact hI.put 101 (by omega) (by omega) _ rfl

theorem op_102 : Step 102 := by
  intro bu ini li rd B N t0 w0 L a w Q o ok ho hL hd hI
  obtain ⟨hbu, ⟨i0, i1⟩, ⟨l0, l1⟩, r0, r1⟩ := ok
  have d101 : L 101 = true := dep_spec ho hd (by kernel_rfl)
  have f101 : a.tmps[112]? = some (.bool true) := hI.at 101 d101
  have p1 := hI.p1
  have p3 := hI.p3
  have h : opsW[102]? = some opsW[102] := rfl
  conv at h => rhs; arg 1; whnf
  clear ho hd
  simp only [wpOp, h]
  rw [if_pos (by rfl)]
  left
  go_simp
  exact hI.put 102 (by omega) (by omega) _ rfl

theorem op_103 : Step 103 := by
  intro bu ini li rd B N t0 w0 L a w Q o ok ho hL hd hI
  obtain ⟨hbu, ⟨i0, i1⟩, ⟨l0, l1⟩, r0, r1⟩ := ok
  have p1 := hI.p1
  have p3 := hI.p3
  have h : opsW[103]? = some opsW[103] := rfl
  conv at h => rhs; arg 1; whnf
  clear ho hd
  simp only [wpOp, h]
  rw [if_pos (by rfl)]
  left
  go_simp
  exact hI.put 103 (by omega) (by omega) _ rfl

theorem op_104 : Step 104 := by
  intro bu ini li rd B N t0 w0 L a w Q o ok ho hL hd hI
  obtain ⟨hbu, ⟨i0, i1⟩, ⟨l0, l1⟩, r0, r1⟩ := ok
  have d103 : L 103 = true := dep_spec ho hd (by kernel_rfl)
  have f103 : a.tmps[114]? = some (.pointer (some ⟨B, 17, none⟩)) := hI.at 103 d103
  have p1 := hI.p1
  have p3 := hI.p3
  have h : opsW[104]? = some opsW[104] := rfl
  conv at h => rhs; arg 1; whnf
  clear ho hd
  simp only [wpOp, h]
  have hc : w.cell? ⟨B, 17, none⟩ = some (.int .i64 (rd)) := hI.blk.cell 17
  rw [if_pos (by rfl)]
  left
  go_simp
  exact hI.put 104 (by omega) (by omega) _ rfl

theorem op_105 : Step 105 := by
  intro bu ini li rd B N t0 w0 L a w Q o ok ho hL hd hI
  obtain ⟨hbu, ⟨i0, i1⟩, ⟨l0, l1⟩, r0, r1⟩ := ok
  have d104 : L 104 = true := dep_spec ho hd (by kernel_rfl)
  have f104 : a.tmps[115]? = some (.int .i64 (rd)) := hI.at 104 d104
  have p1 := hI.p1
  have p3 := hI.p3
  have h : opsW[105]? = some opsW[105] := rfl
  conv at h => rhs; arg 1; whnf
  clear ho hd
  simp only [wpOp, h]
  rw [if_pos (by rfl)]
  left
  go_simp
  exact hI.put 105 (by omega) (by omega) _ rfl

theorem op_106 : Step 106 := by
  intro bu ini li rd B N t0 w0 L a w Q o ok ho hL hd hI
  obtain ⟨hbu, ⟨i0, i1⟩, ⟨l0, l1⟩, r0, r1⟩ := ok
  have d105 : L 105 = true := dep_spec ho hd (by kernel_rfl)
  have f105 : a.tmps[116]? = some (.iface 3 (.int .i64 (rd))) := hI.at 105 d105
  have p1 := hI.p1
  have p3 := hI.p3
  have h : opsW[106]? = some opsW[106] := rfl
  conv at h => rhs; arg 1; whnf
  clear ho hd
  simp only [wpOp, h]
  rw [if_pos (by rfl)]
  left
  go_simp
  refine (within_any _ _ _ _ _ (by decide) (by omega) (by omega)).mono ?_
  rintro e w' ⟨rfl, rfl⟩
  exact hI.put 106 (by omega) (by omega) _ rfl

theorem op_107 : Step 107 := by
  intro bu ini li rd B N t0 w0 L a w Q o ok ho hL hd hI
  obtain ⟨hbu, ⟨i0, i1⟩, ⟨l0, l1⟩, r0, r1⟩ := ok
  have d106 : L 106 = true := dep_spec ho hd (by kernel_rfl)
  have f106 : a.tmps[117]? = some (.bool true) := hI.at 106 d106
  have p1 := hI.p1
  have p3 := hI.p3
  have h : opsW[107]? = some opsW[107] := rfl
  conv at h => rhs; arg 1; whnf
  clear ho hd
  simp only [wpOp, h]
  rw [if_pos (by rfl)]
  left
  go_simp
  exact hI.put 107 (by omega) (by omega) _ rfl

theorem op_108 : Step 108 := by
  intro bu ini li rd B N t0 w0 L a w Q o ok ho hL hd hI
  obtain ⟨hbu, ⟨i0, i1⟩, ⟨l0, l1⟩, r0, r1⟩ := ok
  have p1 := hI.p1
  have p3 := hI.p3
  have h : opsW[108]? = some opsW[108] := rfl
  conv at h => rhs; arg 1; whnf
  clear ho hd
  simp only [wpOp, h]
  rw [if_pos (by rfl)]
  left
  go_simp
  exact hI.put 108 (by omega) (by omega) _ rfl

theorem op_109 : Step 109 := by
  intro bu ini li rd B N t0 w0 L a w Q o ok ho hL hd hI
  obtain ⟨hbu, ⟨i0, i1⟩, ⟨l0, l1⟩, r0, r1⟩ := ok
  have d108 : L 108 = true := dep_spec ho hd (by kernel_rfl)
  have f108 : a.tmps[119]? = some (.pointer (some ⟨B, 18, none⟩)) := hI.at 108 d108
  have p1 := hI.p1
  have p3 := hI.p3
  have h : opsW[109]? = some opsW[109] := rfl
  conv at h => rhs; arg 1; whnf
  clear ho hd
  simp only [wpOp, h]
  have hc : w.cell? ⟨B, 18, none⟩ = some (.int .i64 (0)) := hI.blk.cell 18
  rw [if_pos (by rfl)]
  left
  go_simp
  exact hI.put 109 (by omega) (by omega) _ rfl

theorem op_110 : Step 110 := by
  intro bu ini li rd B N t0 w0 L a w Q o ok ho hL hd hI
  obtain ⟨hbu, ⟨i0, i1⟩, ⟨l0, l1⟩, r0, r1⟩ := ok
  have d109 : L 109 = true := dep_spec ho hd (by kernel_rfl)
  have f109 : a.tmps[120]? = some (.int .i64 (0)) := hI.at 109 d109
  have p1 := hI.p1
  have p3 := hI.p3
  have h : opsW[110]? = some opsW[110] := rfl
  conv at h => rhs; arg 1; whnf
  clear ho hd
  simp only [wpOp, h]
  rw [if_pos (by rfl)]
  left
  go_simp
  exact hI.put 110 (by omega) (by omega) _ rfl

theorem op_111 : Step 111 := by
  intro bu ini li rd B N t0 w0 L a w Q o ok ho hL hd hI
  obtain ⟨hbu, ⟨i0, i1⟩, ⟨l0, l1⟩, r0, r1⟩ := ok
  have d110 : L 110 = true := dep_spec ho hd (by kernel_rfl)
  have f110 : a.tmps[121]? = some (.iface 3 (.int .i64 (0))) := hI.at 110 d110
  have p1 := hI.p1
  have p3 := hI.p3
  have h : opsW[111]? = some opsW[111] := rfl
  conv at h => rhs; arg 1; whnf
  clear ho hd
  simp only [wpOp, h]
  rw [if_pos (by rfl)]
  left
  go_simp
  refine (within_any _ _ _ _ _ (by decide) (by omega) (by omega)).mono ?_
  rintro e w' ⟨rfl, rfl⟩
  exact hI.put 111 (by omega) (by omega) _ rfl

theorem op_112 : Step 112 := by
  intro bu ini li rd B N t0 w0 L a w Q o ok ho hL hd hI
  obtain ⟨hbu, ⟨i0, i1⟩, ⟨l0, l1⟩, r0, r1⟩ := ok
  have d111 : L 111 = true := dep_spec ho hd (by kernel_rfl)
  have f111 : a.tmps[122]? = some (.bool true) := hI.at 111 d111
  have p1 := hI.p1
  have p3 := hI.p3
  have h : opsW[112]? = some opsW[112] := rfl
  conv at h => rhs; arg 1; whnf
  clear ho hd
  simp only [wpOp, h]
  rw [if_pos (by rfl)]
  left
  go_simp
  exact hI.put 112 (by omega) (by omega) _ rfl

theorem op_113 : Step 113 := by
  intro bu ini li rd B N t0 w0 L a w Q o ok ho hL hd hI
  obtain ⟨hbu, ⟨i0, i1⟩, ⟨l0, l1⟩, r0, r1⟩ := ok
  have p1 := hI.p1
  have p3 := hI.p3
  have h : opsW[113]? = some opsW[113] := rfl
  conv at h => rhs; arg 1; whnf
  clear ho hd
  simp only [wpOp, h]
  rw [if_pos (by rfl)]
  left
  go_simp
  exact hI.put 113 (by omega) (by omega) _ rfl

theorem op_114 : Step 114 := by
  intro bu ini li rd B N t0 w0 L a w Q o ok ho hL hd hI
  obtain ⟨hbu, ⟨i0, i1⟩, ⟨l0, l1⟩, r0, r1⟩ := ok
  have d113 : L 113 = true := dep_spec ho hd (by kernel_rfl)
  have f113 : a.tmps[124]? = some (.pointer (some ⟨B, 19, none⟩)) := hI.at 113 d113
  have p1 := hI.p1
  have p3 := hI.p3
  have h : opsW[114]? = some opsW[114] := rfl
  conv at h => rhs; arg 1; whnf
  clear ho hd
  simp only [wpOp, h]
  have hc : w.cell? ⟨B, 19, none⟩ = some (.int .i64 (0)) := hI.blk.cell 19
  rw [if_pos (by rfl)]
  left
  go_simp
  exact hI.put 114 (by omega) (by omega) _ rfl

theorem op_115 : Step 115 := by
  intro bu ini li rd B N t0 w0 L a w Q o ok ho hL hd hI
  obtain ⟨hbu, ⟨i0, i1⟩, ⟨l0, l1⟩, r0, r1⟩ := ok
  have d114 : L 114 = true := dep_spec ho hd (by kernel_rfl)
  have f114 : a.tmps[125]? = some (.int .i64 (0)) := hI.at 114 d114
  have p1 := hI.p1
  have p3 := hI.p3
  have h : opsW[115]? = some opsW[115] := rfl
  conv at h => rhs; arg 1; whnf
  clear ho hd
  simp only [wpOp, h]
  rw [if_pos (by rfl)]
  left
  go_simp
  exact hI.put 115 (by omega) (by omega) _ rfl

theorem op_116 : Step 116 := by
  intro bu ini li rd B N t0 w0 L a w Q o ok ho hL hd hI
  obtain ⟨hbu, ⟨i0, i1⟩, ⟨l0, l1⟩, r0, r1⟩ := ok
  have d115 : L 115 = true := dep_spec ho hd (by kernel_rfl)
  have f115 : a.tmps[126]? = some (.iface 3 (.int .i64 (0))) := hI.at 115 d115
  have p1 := hI.p1
  have p3 := hI.p3
  have h : opsW[116]? = some opsW[116] := rfl
  conv at h => rhs; arg 1; whnf
  clear ho hd
  simp only [wpOp, h]
  rw [if_pos (by rfl)]
  left
  go_simp
  refine (within_any _ _ _ _ _ (by decide) (by omega) (by omega)).mono ?_
  rintro e w' ⟨rfl, rfl⟩
  exact hI.put 116 (by omega) (by omega) _ rfl

theorem op_117 : Step 117 := by
  intro bu ini li rd B N t0 w0 L a w Q o ok ho hL hd hI
  obtain ⟨hbu, ⟨i0, i1⟩, ⟨l0, l1⟩, r0, r1⟩ := ok
  have d116 : L 116 = true := dep_spec ho hd (by kernel_rfl)
  have f116 : a.tmps[127]? = some (.bool true) := hI.at 116 d116
  have p1 := hI.p1
  have p3 := hI.p3
  have h : opsW[117]? = some opsW[117] := rfl
  conv at h => rhs; arg 1; whnf
  clear ho hd
  simp only [wpOp, h]
  rw [if_pos (by rfl)]
  left
  go_simp
  exact hI.put 117 (by omega) (by omega) _ rfl

theorem op_118 : Step 118 := by
  intro bu ini li rd B N t0 w0 L a w Q o ok ho hL hd hI
  obtain ⟨hbu, ⟨i0, i1⟩, ⟨l0, l1⟩, r0, r1⟩ := ok
  have d4 : L 4 = true := dep_spec ho hd (by kernel_rfl)
  have f4 : a.tmps[15]? = some (.agg #[nm 4, .bool true]) := hI.at 4 d4
  have d9 : L 9 = true := dep_spec ho hd (by kernel_rfl)
  have f9 : a.tmps[20]? = some (.agg #[nm 9, .bool true]) := hI.at 9 d9
  have d14 : L 14 = true := dep_spec ho hd (by kernel_rfl)
  have f14 : a.tmps[25]? = some (.agg #[nm 14, .bool true]) := hI.at 14 d14
  have d21 : L 21 = true := dep_spec ho hd (by kernel_rfl)
  have f21 : a.tmps[32]? = some (.agg #[nm 21, .bool true]) := hI.at 21 d21
  have d28 : L 28 = true := dep_spec ho hd (by kernel_rfl)
  have f28 : a.tmps[39]? = some (.agg #[nm 28, .bool true]) := hI.at 28 d28
  have d33 : L 33 = true := dep_spec ho hd (by kernel_rfl)
  have f33 : a.tmps[44]? = some (.agg #[nm 33, .bool true]) := hI.at 33 d33
  have d38 : L 38 = true := dep_spec ho hd (by kernel_rfl)
  have f38 : a.tmps[49]? = some (.agg #[nm 38, .bool true]) := hI.at 38 d38
  have d43 : L 43 = true := dep_spec ho hd (by kernel_rfl)
  have f43 : a.tmps[54]? = some (.agg #[nm 43, .bool true]) := hI.at 43 d43
  have d48 : L 48 = true := dep_spec ho hd (by kernel_rfl)
  have f48 : a.tmps[59]? = some (.agg #[nm 48, .bool true]) := hI.at 48 d48
  have d61 : L 61 = true := dep_spec ho hd (by kernel_rfl)
  have f61 : a.tmps[72]? = some (.agg #[nm 61, .bool true]) := hI.at 61 d61
  have d67 : L 67 = true := dep_spec ho hd (by kernel_rfl)
  have f67 : a.tmps[78]? = some (.agg #[nm 67, .bool true]) := hI.at 67 d67
  have d72 : L 72 = true := dep_spec ho hd (by kernel_rfl)
  have f72 : a.tmps[83]? = some (.agg #[nm 72, .bool true]) := hI.at 72 d72
  have d77 : L 77 = true := dep_spec ho hd (by kernel_rfl)
  have f77 : a.tmps[88]? = some (.agg #[nm 77, .bool true]) := hI.at 77 d77
  have d87 : L 87 = true := dep_spec ho hd (by kernel_rfl)
  have f87 : a.tmps[98]? = some (.agg #[nm 87, .bool true]) := hI.at 87 d87
  have d92 : L 92 = true := dep_spec ho hd (by kernel_rfl)
  have f92 : a.tmps[103]? = some (.agg #[nm 92, .bool true]) := hI.at 92 d92
  have d97 : L 97 = true := dep_spec ho hd (by kernel_rfl)
  have f97 : a.tmps[108]? = some (.agg #[nm 97, .bool true]) := hI.at 97 d97
  have d102 : L 102 = true := dep_spec ho hd (by kernel_rfl)
  have f102 : a.tmps[113]? = some (.agg #[nm 102, .bool true]) := hI.at 102 d102
  have d107 : L 107 = true := dep_spec ho hd (by kernel_rfl)
  have f107 : a.tmps[118]? = some (.agg #[nm 107, .bool true]) := hI.at 107 d107
  have d112 : L 112 = true := dep_spec ho hd (by kernel_rfl)
  have f112 : a.tmps[123]? = some (.agg #[nm 112, .bool true]) := hI.at 112 d112
  have d117 : L 117 = true := dep_spec ho hd (by kernel_rfl)
  have f117 : a.tmps[128]? = some (.agg #[nm 117, .bool true]) := hI.at 117 d117
  have p1 := hI.p1
  have p3 := hI.p3
  have h : opsW[118]? = some opsW[118] := rfl
  conv at h => rhs; arg 1; whnf
  clear ho hd
  simp only [wpOp, h]
  rw [if_pos (by rfl)]
  left
  have hN := hI.pre hL
  go_simp
  subst hN; refine hI.slice hL _ rfl _ rfl

theorem op_119 : Step 119 := by
  intro bu ini li rd B N t0 w0 L a w Q o ok ho hL hd hI
  obtain ⟨hbu, ⟨i0, i1⟩, ⟨l0, l1⟩, r0, r1⟩ := ok
  have d118 : L 118 = true := dep_spec ho hd (by kernel_rfl)
  have f118 : a.tmps[129]? = some (.slice (some ⟨N, 0, none⟩) 20 20) := hI.at 118 d118
  have p1 := hI.p1
  have p3 := hI.p3
  have h : opsW[119]? = some opsW[119] := rfl
  conv at h => rhs; arg 1; whnf
  clear ho hd
  simp only [wpOp, h]
  rw [if_pos (by rfl)]
  left
  go_simp
  exact hI.put 119 (by omega) (by omega) _ rfl

theorem op_120 : Step 120 := by
  intro bu ini li rd B N t0 w0 L a w Q o ok ho hL hd hI
  obtain ⟨hbu, ⟨i0, i1⟩, ⟨l0, l1⟩, r0, r1⟩ := ok
  have p1 := hI.p1
  have p3 := hI.p3
  have h : opsW[120]? = some opsW[120] := rfl
  conv at h => rhs; arg 1; whnf
  clear ho hd
  simp only [wpOp, h]
  rw [if_pos (by rfl)]
  left
  go_simp
  exact hI.put 120 (by omega) (by omega) _ rfl

end
theorem step_all : ∀ i, i < 121 → Step i
  | 0, _ => op_0
  | 1, _ => op_1
  | 2, _ => op_2
  | 3, _ => op_3
  | 4, _ => op_4
  | 5, _ => op_5
  | 6, _ => op_6
  | 7, _ => op_7
  | 8, _ => op_8
  | 9, _ => op_9
  | 10, _ => op_10
  | 11, _ => op_11
  | 12, _ => op_12
  | 13, _ => op_13
  | 14, _ => op_14
  | 15, _ => op_15
  | 16, _ => op_16
  | 17, _ => op_17
  | 18, _ => op_18
  | 19, _ => op_19
  | 20, _ => op_20
  | 21, _ => op_21
  | 22, _ => op_22
  | 23, _ => op_23
  | 24, _ => op_24
  | 25, _ => op_25
  | 26, _ => op_26
  | 27, _ => op_27
  | 28, _ => op_28
  | 29, _ => op_29
  | 30, _ => op_30
  | 31, _ => op_31
  | 32, _ => op_32
  | 33, _ => op_33
  | 34, _ => op_34
  | 35, _ => op_35
  | 36, _ => op_36
  | 37, _ => op_37
  | 38, _ => op_38
  | 39, _ => op_39
  | 40, _ => op_40
  | 41, _ => op_41
  | 42, _ => op_42
  | 43, _ => op_43
  | 44, _ => op_44
  | 45, _ => op_45
  | 46, _ => op_46
  | 47, _ => op_47
  | 48, _ => op_48
  | 49, _ => op_49
  | 50, _ => op_50
  | 51, _ => op_51
  | 52, _ => op_52
  | 53, _ => op_53
  | 54, _ => op_54
  | 55, _ => op_55
  | 56, _ => op_56
  | 57, _ => op_57
  | 58, _ => op_58
  | 59, _ => op_59
  | 60, _ => op_60
  | 61, _ => op_61
  | 62, _ => op_62
  | 63, _ => op_63
  | 64, _ => op_64
  | 65, _ => op_65
  | 66, _ => op_66
  | 67, _ => op_67
  | 68, _ => op_68
  | 69, _ => op_69
  | 70, _ => op_70
  | 71, _ => op_71
  | 72, _ => op_72
  | 73, _ => op_73
  | 74, _ => op_74
  | 75, _ => op_75
  | 76, _ => op_76
  | 77, _ => op_77
  | 78, _ => op_78
  | 79, _ => op_79
  | 80, _ => op_80
  | 81, _ => op_81
  | 82, _ => op_82
  | 83, _ => op_83
  | 84, _ => op_84
  | 85, _ => op_85
  | 86, _ => op_86
  | 87, _ => op_87
  | 88, _ => op_88
  | 89, _ => op_89
  | 90, _ => op_90
  | 91, _ => op_91
  | 92, _ => op_92
  | 93, _ => op_93
  | 94, _ => op_94
  | 95, _ => op_95
  | 96, _ => op_96
  | 97, _ => op_97
  | 98, _ => op_98
  | 99, _ => op_99
  | 100, _ => op_100
  | 101, _ => op_101
  | 102, _ => op_102
  | 103, _ => op_103
  | 104, _ => op_104
  | 105, _ => op_105
  | 106, _ => op_106
  | 107, _ => op_107
  | 108, _ => op_108
  | 109, _ => op_109
  | 110, _ => op_110
  | 111, _ => op_111
  | 112, _ => op_112
  | 113, _ => op_113
  | 114, _ => op_114
  | 115, _ => op_115
  | 116, _ => op_116
  | 117, _ => op_117
  | 118, _ => op_118
  | 119, _ => op_119
  | 120, _ => op_120
  | n + 121, h => absurd h (by omega)
section
end
end Go.Proofs.YtdgphoemjeakaaaGreatDoor.W
