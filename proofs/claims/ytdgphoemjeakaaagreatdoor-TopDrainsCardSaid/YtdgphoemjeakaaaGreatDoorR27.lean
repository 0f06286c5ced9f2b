/- subset: scores, and what compares two. subset: the comparers, as the sort asks for them. subset.Of: whatever it lets through was there. The whole service: sent. -/
import Derived.Test.YtdgphoemjeakaaaGreatDoorR08
import Derived.Test.YtdgphoemjeakaaaGreatDoorR26
import Derived.Sort.Grow
import Derived.Test.YtdgphoemjeakaaaGreatDoorR11
import Derived.Test.YtdgphoemjeakaaaGreatDoorR12
import Derived.Deep.CutRange
namespace Go.Proofs.YtdgphoemjeakaaaGreatDoor.Sb
open Go.RowKit K W Rg
open Go.Sort Go.Shelf
def sc (x : Int) : Int := IntKind.u32.wrap (IntKind.u64.wrap (IntKind.u64.wrap x * 2654435761))
set_option maxHeartbeats 1000000 in
theorem score_any (x : Int) (w : World) : Calls Tryz.prog 146 #[.int .i64 x] w fun e w' => e = .returned (.int .u32 (sc x)) ∧ w' = w := by
  go_enter Tryz.func146, Tryz.ntmps146
  go_wp2_with fail
  go_ret
  exact ⟨rfl, rfl⟩
set_option maxHeartbeats 1000000 in
theorem nan_any (x : Int) (w : World) : Calls Tryz.prog 179 #[.int .u32 x] w fun e w' => e = .returned (.bool false) ∧ w' = w := by
  go_enter Tryz.func179, Tryz.ntmps179
  go_wp2_with fail
  go_ret
  exact ⟨by simp, rfl⟩
set_option maxHeartbeats 1000000 in
theorem cmp32_any (x y : Int) (w : World) : Calls Tryz.prog 145 #[.int .u32 x, .int .u32 y] w fun e w' => e = .returned (.int .i64 (Lib.compareInt x y)) ∧ w' = w := by
  go_enter Tryz.func145, Tryz.ntmps145
  go_wp2_with fail
  refine (nan_any _ _).mono ?_
  rintro e w1 ⟨rfl, rfl⟩
  go_wp2_with fail
  refine (nan_any _ _).mono ?_
  rintro e w2 ⟨rfl, rfl⟩
  go_wp2_with fail
  all_goals (go_ret; refine ⟨?_, rfl⟩; unfold Lib.compareInt; (repeat' split) <;> first | rfl | (exfalso; omega))
def or3 (a b c : Int) : Int := if a = 0 then if b = 0 then c else b else a
set_option maxHeartbeats 1000000 in
theorem or_any (g : Nat) (a b c : Int) (w : World) (h : Blk w g #[.int .i64 a, .int .i64 b, .int .i64 c] 3) : Calls Tryz.prog 144 #[.slice (some ⟨g, 0, none⟩) 3 3] w fun e w' => e = .returned (.int .i64 (or3 a b c)) ∧ w' = w := by
  have c0 : w.cell? ⟨g, 0, none⟩ = some (.int .i64 a) := h.cell 0
  have c1 : w.cell? ⟨g, 1, none⟩ = some (.int .i64 b) := h.cell 1
  have c2 : w.cell? ⟨g, 2, none⟩ = some (.int .i64 c) := h.cell 2
  clear h
  go_enter Tryz.func144, Tryz.ntmps144
  go_wp2_with fail
  go_loopw [8] (fun i wr => ∃ k : Nat, k ≤ 3 ∧ i = .int .i64 k ∧ wr = w ∧ (1 ≤ k → a = 0) ∧ (2 ≤ k → b = 0) ∧ (3 ≤ k → c = 0)) (fun i _ => 3 - (intOf i).toNat)
  case atStart => exact ⟨0, by omega, rfl, rfl, fun h => absurd h (by decide), fun h => absurd h (by decide), fun h => absurd h (by decide)⟩
  case round =>
    obtain ⟨k, hk, rfl, rfl, h1, h2, h3⟩ := hrel
    match k, hk, h1, h2, h3 with
    | 0, _, h1, h2, h3 =>
      by_cases h : a = 0
      · go_wp2_with fail
        go_roundw
        case rel => exact ⟨1, by decide, rfl, trivial, fun _ => h, fun h => absurd h (by decide), fun h => absurd h (by decide)⟩
        case measure => simp [intOf]
      · go_wp2_with fail
        go_ret
        exact ⟨by unfold or3; simp [h], rfl⟩
    | 1, _, h1, h2, h3 =>
      by_cases h : b = 0
      · go_wp2_with fail
        go_roundw
        case rel => exact ⟨2, by decide, rfl, trivial, fun _ => h1 (by decide), fun _ => h, fun h => absurd h (by decide)⟩
        case measure => simp [intOf]
      · go_wp2_with fail
        go_ret
        exact ⟨by unfold or3; simp [h1, h], rfl⟩
    | 2, _, h1, h2, h3 =>
      by_cases h : c = 0
      · go_wp2_with fail
        go_roundw
        case rel => exact ⟨3, by decide, rfl, trivial, fun _ => h1 (by decide), fun _ => h2 (by decide), fun _ => h⟩
        case measure => simp [intOf]
      · go_wp2_with fail
        go_ret
        exact ⟨by unfold or3; simp [h1, h2], rfl⟩
    | 3, _, h1, h2, h3 =>
      go_wp2_with fail
      go_ret
      exact ⟨by unfold or3; simp [h1, h2, h3], rfl⟩
def Gr (w w' : World) : Prop := ∃ q os, w' = grow (w.drewN q) os
theorem Gr.refl (w : World) : Gr w w := ⟨0, #[], by simp [World.drewN]⟩
theorem Gr.alloc {w w' : World} (h : Gr w w') (o : Obj) : Gr w (w'.alloc o) := by
  obtain ⟨q, os, rfl⟩ := h
  exact ⟨q, os.push o, by unfold grow World.alloc; simp only [Array.append_push]⟩
theorem Gr.drewN {w w' : World} (h : Gr w w') (n : Nat) : Gr w (w'.drewN n) := by
  obtain ⟨q, os, rfl⟩ := h
  exact ⟨q + n, os, by simp [grow, World.drewN, Nat.add_assoc]⟩
theorem Gr.drew {w w' : World} (h : Gr w w') : Gr w w'.drew := h.drewN 1
theorem Gr.trans {w w' w'' : World} (h : Gr w w') (h2 : Gr w' w'') : Gr w w'' := by
  obtain ⟨q, os, rfl⟩ := h
  obtain ⟨q2, os2, rfl⟩ := h2
  exact ⟨q + q2, os ++ os2, by simp [grow, World.drewN, Nat.add_assoc, Array.append_assoc]⟩
theorem Gr.chg {w w' : World} (h : Gr w w') : Chg No w w' := by
  obtain ⟨q, os, rfl⟩ := h
  exact ⟨rfl, rfl, rfl, by simp [grow, World.drewN], fun k hk _ => by simp [grow, World.drewN, Array.getElem?_append, hk]⟩
def cf1 (x y : Int × Int) : Int := or3 (Lib.compareInt (sc x.1) (sc y.1)) (Lib.compareInt x.1 y.1) (Lib.compareInt x.2 y.2)
def cf2 (x y : Int × Int) : Int := Lib.compareInt x.2 y.2
def one (x : Int × Int) : Value := .iface 184 (.agg #[.int .i64 x.1, .int .i64 x.2])
theorem cmp_lt (a b : Int) : Lib.compareInt a b < 0 ↔ a < b := by unfold Lib.compareInt; (repeat' split) <;> omega
theorem cmp_eq (a b : Int) : Lib.compareInt a b = 0 ↔ a = b := by unfold Lib.compareInt; (repeat' split) <;> omega
theorem or_lt (a b c : Int) : or3 a b c < 0 ↔ a < 0 ∨ a = 0 ∧ (b < 0 ∨ b = 0 ∧ c < 0) := by unfold or3; (repeat' split) <;> omega
theorem cf1_lt (x y : Int × Int) : ltOf cf1 x y = true ↔ sc x.1 < sc y.1 ∨ sc x.1 = sc y.1 ∧ (x.1 < y.1 ∨ x.1 = y.1 ∧ x.2 < y.2) := by
  unfold ltOf cf1
  rw [decide_eq_true_iff, or_lt, cmp_lt, cmp_lt, cmp_lt, cmp_eq, cmp_eq]
theorem swo1 : SWO (ltOf cf1) := by
  have h : ∀ x y, ltOf cf1 x y = false ↔ ¬ (sc x.1 < sc y.1 ∨ sc x.1 = sc y.1 ∧ (x.1 < y.1 ∨ x.1 = y.1 ∧ x.2 < y.2)) := fun x y => by rw [← cf1_lt]; simp
  refine ⟨fun x => (h _ _).2 (by omega), fun x y z h1 h2 => (cf1_lt _ _).2 ?_, fun x y z h1 h2 => (h _ _).2 ?_⟩
  · rw [cf1_lt] at h1 h2; omega
  · rw [h] at h1 h2; omega
theorem cf2_lt (x y : Int × Int) : ltOf cf2 x y = true ↔ x.2 < y.2 := by
  unfold ltOf cf2
  rw [decide_eq_true_iff, cmp_lt]
theorem swo2 : SWO (ltOf cf2) := by
  have h : ∀ x y, ltOf cf2 x y = false ↔ ¬ x.2 < y.2 := fun x y => by rw [← cf2_lt]; simp
  refine ⟨fun x => (h _ _).2 (by omega), fun x y z h1 h2 => (cf2_lt _ _).2 ?_, fun x y z h1 h2 => (h _ _).2 ?_⟩
  · rw [cf2_lt] at h1 h2; omega
  · rw [h] at h1 h2; omega
theorem one_cell : OneCell one := fun _ => rfl
end Go.Proofs.YtdgphoemjeakaaaGreatDoor.Sb
namespace Go.Proofs.YtdgphoemjeakaaaGreatDoor.Sb
open Go.RowKit K W Rg
open Go.Sort Go.Shelf
noncomputable def opsB : Array Oper := reg Tryz.f110 3
noncomputable def layB (x y : Int × Int) (A B : Nat) (w1 : World) : Lay := [(some 19, .pointer (some ⟨A, 0, none⟩)),
  (some 20, .int .i64 x.1),
  (some 21, .int .u32 (sc x.1)),
  (some 22, .pointer (some ⟨B, 0, none⟩)),
  (some 23, .int .i64 y.1),
  (some 24, .int .u32 (sc y.1)),
  (some 25, .int .i64 (Lib.compareInt (sc x.1) (sc y.1))),
  (some 26, .pointer (some ⟨A, 0, none⟩)),
  (some 27, .int .i64 x.1),
  (some 28, .pointer (some ⟨B, 0, none⟩)),
  (some 29, .int .i64 y.1),
  (some 30, .int .i64 (Lib.compareInt x.1 y.1)),
  (some 31, .pointer (some ⟨A, 1, none⟩)),
  (some 32, .int .i64 x.2),
  (some 33, .pointer (some ⟨B, 1, none⟩)),
  (some 34, .int .i64 y.2),
  (some 35, .int .i64 (Lib.compareInt x.2 y.2)),
  (some 36, .slice (some ⟨w1.heap.size, 0, none⟩) 3 3),
  (some 37, .int .i64 (or3 (Lib.compareInt (sc x.1) (sc y.1)) (Lib.compareInt x.1 y.1) (Lib.compareInt x.2 y.2))),
  (some 4, .int .i64 (or3 (Lib.compareInt (sc x.1) (sc y.1)) (Lib.compareInt x.1 y.1) (Lib.compareInt x.2 y.2)))]
def Wx (w1 : World) (o : Obj) (b : Bool) (w : World) : Prop := ∃ q, w = bif b then (w1.drewN q).alloc o else w1.drewN q
set_option maxHeartbeats 8000000 in
set_option maxRecDepth 1000000 in
theorem wp_bef {id : Nat} {Q : Exit → Act → World → Prop} {x y : Int × Int} {A B : Nat} {t0 : Array Value} {w1 : World} (hs : t0.size = 38) (h5 : t0[5]? = some (.pointer (some ⟨A, 0, none⟩))) (h7 : t0[7]? = some (.pointer (some ⟨B, 0, none⟩))) (bA : Blk w1 A #[.int .i64 x.1, .int .i64 x.2] 184) (bB : Blk w1 B #[.int .i64 y.1, .int .i64 y.2] 184)
    (hend : ∀ w', Gr w1 w' → Q .normal ⟨puts (layB x y A B w1) t0, []⟩ w') : (Code.region id opsB true).wp Tryz.prog Q ⟨t0, []⟩ w1 := by
  have sz : opsB.size = 20 := by kernel_rfl
  have F : Flows (X := Unit) opsB (fun _ => layB x y A B w1) [(5, .pointer (some ⟨A, 0, none⟩)), (7, .pointer (some ⟨B, 0, none⟩))] t0 4 := Flows.of (by kernel_rfl) hs (fun _ => by kernel_rfl) (.cons h5 (.cons h7 .nil))
  have ob : ∃ o, o = Obj.cells #[.int .i64 (Lib.compareInt (sc x.1) (sc y.1)), .int .i64 (Lib.compareInt x.1 y.1), .int .i64 (Lib.compareInt x.2 y.2)] 3 := ⟨_, rfl⟩
  obtain ⟨o, ho⟩ := ob
  have bl : ∀ {g : Nat} {cs : Array Value} {b : Bool} {w : World}, Blk w1 g cs 184 → Wx w1 o b w → Blk w g cs 184 := fun {g cs b w} hb hw => by
    obtain ⟨q, rfl⟩ := hw
    cases b
    · exact hb.drewN q
    · exact (hb.drewN q).alloc _
  have hA : ∀ {b : Bool} {w : World} (j : Nat), Wx w1 o b w → w.cell? ⟨A, j, none⟩ = #[.int .i64 x.1, .int .i64 x.2][j]? := fun j h => (bl bA h).cell j
  have hB : ∀ {b : Bool} {w : World} (j : Nat), Wx w1 o b w → w.cell? ⟨B, j, none⟩ = #[.int .i64 y.1, .int .i64 y.2][j]? := fun j h => (bl bB h).cell j
  have row : ∀ {b : Bool} {w : World}, b = true → Wx w1 o b w → Blk w w1.heap.size #[.int .i64 (Lib.compareInt (sc x.1) (sc y.1)), .int .i64 (Lib.compareInt x.1 y.1), .int .i64 (Lib.compareInt x.2 y.2)] 3 := fun {b w} hb hw => by
    obtain ⟨q, rfl⟩ := hw
    rw [hb, ho]
    exact Blk.new (w1.drewN q) _ 3
  have made : ∀ {b : Bool} {w : World}, b = false → Wx w1 o b w → (Option.some 36 = none ∨ (Value.slice (some ⟨w.heap.size, 0, none⟩) 3 3) = (.slice (some ⟨w1.heap.size, 0, none⟩) 3 3)) ∧ Wx w1 o true (w.alloc (.cells #[.int .i64 (Lib.compareInt (sc x.1) (sc y.1)), .int .i64 (Lib.compareInt x.1 y.1), .int .i64 (Lib.compareInt x.2 y.2)] 3)) := fun {b w} hb hw => by
    obtain ⟨q, rfl⟩ := hw
    rw [hb, ← ho]
    exact ⟨.inr rfl, q, rfl⟩
  refine wp_flow (Wd := fun _ L w => Wx w1 o (L 17) w) F rfl () ⟨1, rfl⟩ (fun i hi => ?_) (fun x L w' hl hw => hend w' (by
    have := hl 17 (by rw [sz]; decide)
    rw [this] at hw
    obtain ⟨q, rfl⟩ := hw
    exact ((Gr.refl w1).drewN q).alloc o))
  rw [sz] at hi
  match i, hi with
  | 0, _ => exact stepP F rfl (fun _ => rfl) (fun _ _ => by kernel_rfl) (fun _ => rfl) (fun _ _ _ h => h)
  | 1, _ => exact stepL (fun _ => ⟨A, 0, none⟩) F rfl (fun _ => rfl) (fun _ => rfl) rfl (fun _ => rfl) Tryz.underlying3 rfl (fun _ L w _ _ _ h => ⟨hA 0 h, h⟩)
  | 2, _ => exact stepC 146 (fun _ => #[.int .i64 x.1]) F rfl (fun _ => rfl) (fun _ => rfl) (fun _ _ => by kernel_rfl) (fun _ L w _ h2 _ h => (score_any _ _).mono fun e w' ⟨h3, h4⟩ => ⟨h3, by rw [h4]; exact h⟩)
  | 3, _ => exact stepP F rfl (fun _ => rfl) (fun _ _ => by kernel_rfl) (fun _ => rfl) (fun _ _ _ h => h)
  | 4, _ => exact stepL (fun _ => ⟨B, 0, none⟩) F rfl (fun _ => rfl) (fun _ => rfl) rfl (fun _ => rfl) Tryz.underlying3 rfl (fun _ L w _ _ _ h => ⟨hB 0 h, h⟩)
  | 5, _ => exact stepC 146 (fun _ => #[.int .i64 y.1]) F rfl (fun _ => rfl) (fun _ => rfl) (fun _ _ => by kernel_rfl) (fun _ L w _ h2 _ h => (score_any _ _).mono fun e w' ⟨h3, h4⟩ => ⟨h3, by rw [h4]; exact h⟩)
  | 6, _ => exact stepC 145 (fun _ => #[.int .u32 (sc x.1), .int .u32 (sc y.1)]) F rfl (fun _ => rfl) (fun _ => rfl) (fun _ _ => by kernel_rfl) (fun _ L w _ h2 _ h => (cmp32_any _ _ _).mono fun e w' ⟨h3, h4⟩ => ⟨h3, by rw [h4]; exact h⟩)
  | 7, _ => exact stepP F rfl (fun _ => rfl) (fun _ _ => by kernel_rfl) (fun _ => rfl) (fun _ _ _ h => h)
  | 8, _ => exact stepL (fun _ => ⟨A, 0, none⟩) F rfl (fun _ => rfl) (fun _ => rfl) rfl (fun _ => rfl) Tryz.underlying3 rfl (fun _ L w _ _ _ h => ⟨hA 0 h, h⟩)
  | 9, _ => exact stepP F rfl (fun _ => rfl) (fun _ _ => by kernel_rfl) (fun _ => rfl) (fun _ _ _ h => h)
  | 10, _ => exact stepL (fun _ => ⟨B, 0, none⟩) F rfl (fun _ => rfl) (fun _ => rfl) rfl (fun _ => rfl) Tryz.underlying3 rfl (fun _ L w _ _ _ h => ⟨hB 0 h, h⟩)
  | 11, _ => exact stepC 112 (fun _ => #[.int .i64 x.1, .int .i64 y.1]) F rfl (fun _ => rfl) (fun _ => rfl) (fun _ _ => by kernel_rfl) (fun _ L w _ h2 _ h => (Tryz.cmp_Compare_int _ _ _).mono fun e w' ⟨h3, h4⟩ => ⟨h3, by rw [h4]; exact h⟩)
  | 12, _ => exact stepP F rfl (fun _ => rfl) (fun _ _ => by kernel_rfl) (fun _ => rfl) (fun _ _ _ h => h)
  | 13, _ => exact stepL (fun _ => ⟨A, 1, none⟩) F rfl (fun _ => rfl) (fun _ => rfl) rfl (fun _ => rfl) Tryz.underlying3 rfl (fun _ L w _ _ _ h => ⟨hA 1 h, h⟩)
  | 14, _ => exact stepP F rfl (fun _ => rfl) (fun _ _ => by kernel_rfl) (fun _ => rfl) (fun _ _ _ h => h)
  | 15, _ => exact stepL (fun _ => ⟨B, 1, none⟩) F rfl (fun _ => rfl) (fun _ => rfl) rfl (fun _ => rfl) Tryz.underlying3 rfl (fun _ L w _ _ _ h => ⟨hB 1 h, h⟩)
  | 16, _ => exact stepC 112 (fun _ => #[.int .i64 x.2, .int .i64 y.2]) F rfl (fun _ => rfl) (fun _ => rfl) (fun _ _ => by kernel_rfl) (fun _ L w _ h2 _ h => (Tryz.cmp_Compare_int _ _ _).mono fun e w' ⟨h3, h4⟩ => ⟨h3, by rw [h4]; exact h⟩)
  | 17, _ => exact stepR F rfl (fun _ => rfl) (fun _ => rfl) (fun _ L w h1 _ _ h => by rw [show (execOp _ _).run Tryz.prog w = .ok (.value (.slice (some ⟨w.heap.size, 0, none⟩) 3 3)) (w.alloc (.cells #[.int .i64 (Lib.compareInt (sc x.1) (sc y.1)), .int .i64 (Lib.compareInt x.1 y.1), .int .i64 (Lib.compareInt x.2 y.2)] 3)) by kernel_rfl]; exact made h1 h)
  | 18, _ => exact stepC 144 (fun _ => #[.slice (some ⟨w1.heap.size, 0, none⟩) 3 3]) F rfl (fun _ => rfl) (fun _ => rfl) (fun _ _ => by kernel_rfl) (fun _ L w _ h2 _ h => (or_any _ _ _ _ _ (row (h2 17 (by kernel_rfl)) h)).mono fun e w' ⟨h3, h4⟩ => ⟨h3, by rw [h4]; exact h⟩)
  | 19, _ => exact stepP F rfl (fun _ => rfl) (fun _ _ => by kernel_rfl) (fun _ => rfl) (fun _ _ _ h => h)
  | n + 20, h => exact absurd h (by omega)
@[local go_sem ↓] theorem ta184 (v : Value) (w : World) : (Instr.typeAssert (.iface 184 v) 20 184 true).run Tryz.prog w = .ok (.tuple #[v, .bool true]) w := by kernel_rfl
set_option maxHeartbeats 2000000 in
set_option maxRecDepth 1000000 in
theorem before_any (x y : Int × Int) (w : World) : Calls Tryz.prog 110 #[one x, one y] w fun e w' => e = .returned (.int .i64 (cf1 x y)) ∧ Gr w w' := by
  unfold one
  go_enter Tryz.func110, Tryz.ntmps110
  go_wp2_with fail
  have bA : Blk ((w.alloc (.cells #[.int .i64 x.1, .int .i64 x.2] 184)).alloc (.cells #[.int .i64 y.1, .int .i64 y.2] 184)) w.heap.size #[.int .i64 x.1, .int .i64 x.2] 184 := (Blk.new w _ 184).alloc _
  have bB : Blk ((w.alloc (.cells #[.int .i64 x.1, .int .i64 x.2] 184)).alloc (.cells #[.int .i64 y.1, .int .i64 y.2] 184)) (w.heap.size + 1) #[.int .i64 y.1, .int .i64 y.2] 184 := by
    have := Blk.new (w.alloc (.cells #[.int .i64 x.1, .int .i64 x.2] 184)) #[.int .i64 y.1, .int .i64 y.2] 184
    rwa [show (w.alloc (.cells #[.int .i64 x.1, .int .i64 x.2] 184)).heap.size = w.heap.size + 1 from by simp] at this
  have G0 : Gr w ((w.alloc (.cells #[.int .i64 x.1, .int .i64 x.2] 184)).alloc (.cells #[.int .i64 y.1, .int .i64 y.2] 184)) := ((Gr.refl w).alloc _).alloc _
  refine wp_bef rfl rfl rfl bA bB (fun w2 hg => ?_)
  have HG := Lib.hid (G0.trans hg)
  clear bA bB G0 hg
  simp only [layB, puts, List.setIfInBounds_toArray, List.set_cons_succ, List.set_cons_zero]
  go_wp2_with fail
  go_ret
  exact ⟨rfl, HG.out⟩
noncomputable def opsC : Array Oper := reg Tryz.f111 1
noncomputable def layC (x y : Int × Int) : Lay := [(some 5, one x), (some 6, .agg #[.int .i64 x.1, .int .i64 x.2]), (some 7, .int .i64 x.2), (some 8, one y), (some 9, .agg #[.int .i64 y.1, .int .i64 y.2]), (some 10, .int .i64 y.2), (some 11, .int .i64 (Lib.compareInt x.2 y.2)), (some 4, .int .i64 (Lib.compareInt x.2 y.2))]
set_option maxRecDepth 1000000 in
theorem wp_at {id : Nat} {Q : Exit → Act → World → Prop} {x y : Int × Int} {t0 : Array Value} {w1 : World} (hs : t0.size = 12) (h0 : t0[0]? = some (one x)) (h1 : t0[1]? = some (one y))
    (hend : ∀ w', Gr w1 w' → Q .normal ⟨puts (layC x y) t0, []⟩ w') : (Code.region id opsC true).wp Tryz.prog Q ⟨t0, []⟩ w1 := by
  have sz : opsC.size = 8 := by kernel_rfl
  have F : Flows (X := Unit) opsC (fun _ => layC x y) [(0, one x), (1, one y)] t0 4 := Flows.of (by kernel_rfl) hs (fun _ => by kernel_rfl) (.cons h0 (.cons h1 .nil))
  refine wp_flow (Wd := fun _ _ w => Gr w1 w) F rfl () (Gr.refl w1).drew (fun i hi => ?_) (fun x L w' hl hw => hend w' hw)
  rw [sz] at hi
  match i, hi with
  | 0, _ => exact stepP F rfl (fun _ => rfl) (fun _ _ => by kernel_rfl) (fun _ => rfl) (fun _ _ _ h => h)
  | 1, _ => exact stepP F rfl (fun _ => rfl) (fun _ _ => by kernel_rfl) (fun _ => rfl) (fun _ _ _ h => h)
  | 2, _ => exact stepP F rfl (fun _ => rfl) (fun _ _ => by kernel_rfl) (fun _ => rfl) (fun _ _ _ h => h)
  | 3, _ => exact stepP F rfl (fun _ => rfl) (fun _ _ => by kernel_rfl) (fun _ => rfl) (fun _ _ _ h => h)
  | 4, _ => exact stepP F rfl (fun _ => rfl) (fun _ _ => by kernel_rfl) (fun _ => rfl) (fun _ _ _ h => h)
  | 5, _ => exact stepP F rfl (fun _ => rfl) (fun _ _ => by kernel_rfl) (fun _ => rfl) (fun _ _ _ h => h)
  | 6, _ => exact stepC 112 (fun _ => #[.int .i64 x.2, .int .i64 y.2]) F rfl (fun _ => rfl) (fun _ => rfl) (fun _ _ => by kernel_rfl) (fun _ L w _ h2 _ h => (Tryz.cmp_Compare_int _ _ _).mono fun e w' ⟨h3, h4⟩ => ⟨h3, by rw [h4]; exact h⟩)
  | 7, _ => exact stepP F rfl (fun _ => rfl) (fun _ _ => by kernel_rfl) (fun _ => rfl) (fun _ _ _ h => h)
  | n + 8, h => exact absurd h (by omega)
set_option maxHeartbeats 2000000 in
set_option maxRecDepth 1000000 in
theorem places_any (x y : Int × Int) (w : World) : Calls Tryz.prog 111 #[one x, one y] w fun e w' => e = .returned (.int .i64 (cf2 x y)) ∧ Gr w w' := by
  unfold one
  go_enter Tryz.func111, Tryz.ntmps111
  go_wp2_with fail
  refine wp_at (x := x) (y := y) rfl rfl rfl (fun w2 hg => ?_)
  have HG := Lib.hid hg
  clear hg
  simp only [layC, puts, List.setIfInBounds_toArray, List.set_cons_succ, List.set_cons_zero]
  go_wp2_with fail
  go_ret
  exact ⟨rfl, HG.out⟩
end Go.Proofs.YtdgphoemjeakaaaGreatDoor.Sb
namespace Go.Proofs.YtdgphoemjeakaaaGreatDoor.Sb
open Go.RowKit K W Rg
open Go.Sort Go.Shelf
set_option maxRecDepth 100000
theorem sort_own {w : World} {S : Nat → Prop} {g o cap n q : Nat} {os : Array Obj} {d d' : Array (Int × Int)} (h : Own w S 20 1 (.slice (some ⟨g, o, none⟩) n cap) n (d.toList.map one)) (hn : d'.size = n) :
    Own (sortWorld one w g o q d' os) S 20 1 (.slice (some ⟨g, o, none⟩) n cap) n (d'.toList.map one) ∧ Chg (fun k => k = g) w (sortWorld one w g o q d' os) := by
  obtain ⟨hS, hg, cur, hb, h1, h2, h3, h4⟩ := h.blk
  have hb' : w.heap[g]? = some (.cells cur 20 (0, 0)) := hb
  have hs : (sortWorld one w g o q d' os).heap = (w.heap.modify g (onCells (putCells one o d'))) ++ os := rfl
  have hg2 : g < (w.heap.modify g (onCells (putCells one o d'))).size := by rw [Array.size_modify]; exact hg
  refine ⟨⟨by simp [hn], .inr ⟨g, o, cap, putCells one o d' cur, rfl, hS, ?_, h1, h2, by simpa [putCells] using h3, ?_⟩⟩, rfl, rfl, rfl, ?_, fun k hk hne => ?_⟩
  · show (sortWorld one w g o q d' os).heap[g]? = _
    rw [hs, Array.getElem?_append_left hg2, Array.getElem?_modify, if_pos rfl, hb']
    rfl
  · apply List.ext_getElem?
    intro j
    rw [List.getElem?_take, List.getElem?_drop, List.getElem?_map, Array.getElem?_toList, Array.getElem?_toList]
    by_cases hj : j < n
    · have hc : o + j < cur.size := by omega
      have e1 : d'[j]? = some d'[j]! := by rw [getElem!_pos d' j (by omega)]; exact Array.getElem?_eq_getElem (by omega)
      rw [if_pos (by omega), e1, putCells, Array.getElem?_mapIdx, Array.getElem?_eq_getElem hc, Option.map_some, Option.map_some, if_pos ⟨by omega, by omega⟩, Nat.add_sub_cancel_left]
    · rw [if_neg (by omega), Array.getElem?_eq_none (by omega)]
      rfl
  · rw [hs, Array.size_append, Array.size_modify]
    omega
  · rw [hs, Array.getElem?_append_left (by rw [Array.size_modify]; exact hk), Array.getElem?_modify, if_neg (fun h => hne h.symm)]
theorem holds_own {w : World} {S : Nat → Prop} {g o cap n : Nat} {d : Array (Int × Int)} (h : Own w S 20 1 (.slice (some ⟨g, o, none⟩) n cap) n (d.toList.map one)) (hn : d.size = n) : Holds one w g o d := fun j hj => by
  have h1 := h.cellAt j (by omega)
  rw [List.getElem?_map, Array.getElem?_toList, Array.getElem?_eq_getElem hj] at h1
  exact ⟨by rw [h1, getElem!_pos d j hj]; rfl, h.freeAt _⟩
theorem perm_mem {n : Nat} {d d' : Array (Int × Int)} (h : PermIn 0 n d d') (hn : d.size = n) : d'.size = n ∧ ∀ x, x ∈ d'.toList → x ∈ d.toList := by
  obtain ⟨h1, -, h2⟩ := h
  have e1 : d'.extract 0 n = d' := by rw [← hn, ← h1]; exact Array.extract_size
  have e2 : d.extract 0 n = d := by rw [← hn]; exact Array.extract_size
  rw [e1, e2] at h2
  exact ⟨by omega, fun x hx => h2.mem_iff.1 hx⟩
theorem sort_any (f : FuncId) (cf : Int × Int → Int × Int → Int) (hO : SWO (ltOf cf)) (eg : ∀ args w, (callFunc f args).run Tryz.prog w = .ok (.enter f args) w) (hc : ∀ x y w, Calls Tryz.prog f #[one x, one y] w fun e w' => e = .returned (.int .i64 (cf x y)) ∧ Gr w w')
    {w : World} {S : Nat → Prop} {g o cap n : Nat} {l : List (Int × Int)} (h : Own w S 20 1 (.slice (some ⟨g, o, none⟩) n cap) n (l.map one)) (hn : n ≤ 1000000) :
    Calls Tryz.prog 109 #[.slice (some ⟨g, o, none⟩) n cap, .func (.func f) #[] #[]] w fun e w' => e = .returned (.tuple #[]) ∧ ∃ l' : List (Int × Int), l'.length = n ∧ (∀ x, x ∈ l' → x ∈ l) ∧ Own w' S 20 1 (.slice (some ⟨g, o, none⟩) n cap) n (l'.map one) ∧ Chg (fun k => k = g) w w' := by
  have hl : l.length = n := by have := h.len; simpa using this
  have hh : Own w S 20 1 (.slice (some ⟨g, o, none⟩) n cap) n (l.toArray.toList.map one) := by simpa using h
  have hz : l.toArray.size = n := by simpa using hl
  have := Any.slices_SortFunc Tryz.laysSlF6_f109 one one_cell cf hO f #[] g o cap l.toArray w eg (fun m os dk _ x y => (hc x y _).mono fun e w' ⟨h1, q, os', h2⟩ => ⟨h1, q, os', h2⟩) (holds_own hh hz) hh.blk.2.1 (by omega)
  rw [hz] at this
  refine this.mono ?_
  rintro e w' ⟨rfl, d', q, os, hp, -, rfl⟩
  obtain ⟨h1, h2⟩ := perm_mem hp hz
  obtain ⟨h3, h4⟩ := sort_own (q := q) (os := os) hh h1
  exact ⟨rfl, d'.toList, by simpa using h1, fun x hx => by simpa using h2 x hx, h3, h4⟩
def prs (ids : List Int) : List (Int × Int) := ids.zipIdx.map fun x => (x.1, (x.2 : Int))
theorem prs_len (ids : List Int) : (prs ids).length = ids.length := by simp [prs]
theorem prs_at {ids : List Int} {k : Nat} {x : Int} (h : ids[k]? = some x) : (prs ids)[k]? = some (x, (k : Int)) := by
  simp [prs, List.getElem?_zipIdx, h]
theorem prs_mem {ids : List Int} {x : Int × Int} (h : x ∈ prs ids) : x.1 ∈ ids := by
  obtain ⟨k, hk⟩ := List.getElem?_of_mem h
  have hl : k < ids.length := by
    have := (List.getElem?_eq_some_iff.1 hk).1
    rwa [prs_len] at this
  rw [prs_at (List.getElem?_eq_getElem hl)] at hk
  rw [← Option.some.inj hk]
  exact List.getElem_mem hl
@[local go_sem ↓] theorem ta184f (v : Value) (w : World) : (Instr.typeAssert (.iface 184 v) 20 184 false).run Tryz.prog w = .ok v w := by kernel_rfl
@[local go_sem ↓] theorem fld184_0 (v0 v1 : Value) (W : World) : (Instr.field 184 (.agg #[v0, v1]) 0).run Tryz.prog W = .ok v0 W := by kernel_rfl
theorem take_snoc {α : Type} {l : List α} {n : Nat} {x : α} (h : l[n]? = some x) : l.take (n + 1) = l.take n ++ [x] := by rw [List.take_add_one, h]; rfl
set_option maxHeartbeats 4000000 in
set_option maxRecDepth 1000000 in
theorem of_some (w : World) (S : Nat → Prop) (v : Value) (ids : List Int) (mo : Nat) (own : Own w S 3 1 v ids.length (ids.map (Value.int .i64))) (hn : ids.length ≤ 1000000) (h1 : 1 ≤ mo) (h2 : mo < ids.length) :
    Calls Tryz.prog 75 #[v, .int .i64 mo] w fun e w' => ∃ (v' : Value) (ys : List Int), e = .returned v' ∧ Own w' (New w) 3 1 v' ys.length (ys.map (Value.int .i64)) ∧ (∀ y, y ∈ ys → y ∈ ids) ∧ ys.length ≤ ids.length ∧ Chg No w w' := by
  obtain ⟨i0, hi, hz0, hz1, hz2⟩ := info_parts A.info3
  obtain ⟨i1, hj, hy0, hy1, hy2⟩ := info_parts G.info20
  obtain ⟨va, vc, rfl⟩ := own.sl
  obtain ⟨g, o, rfl, hS, hg, hcap, hmax⟩ := own.some_ (by omega)
  have H := Lib.hid own
  have hlp := prs_len ids
  have hf1 : decide ((mo : Int) < 1) = false := decide_eq_false (by omega)
  have hf2 : decide (ids.length ≤ mo) = false := decide_eq_false (by omega)
  clear own hS
  go_enter Tryz.func75, Tryz.ntmps75
  go_wp2_with fail
  go_loopw [5, 23] (fun s i wr => ∃ k : Nat, k ≤ ids.length ∧ i = .int .i64 k ∧ Own wr (New w) 20 1 s k (((prs ids).take k).map one) ∧ Chg No w wr) (fun _ i _ => ids.length - (intOf i).toNat)
  case atStart => exact ⟨0, Nat.zero_le _, rfl, Own.nil _ _ _ _, Chg.refl _ _⟩
  case round =>
    obtain ⟨k, hk, rfl, ho, hc⟩ := hrel
    by_cases hlt : k < ids.length
    · obtain ⟨x, hx⟩ : ∃ x, ids[k]? = some x := ⟨ids[k], List.getElem?_eq_getElem hlt⟩
      have e0 : wr.cell? ⟨g, o + k, none⟩ = some (.int .i64 x) := by
        rw [(H.out.kept hc).cellAt k (by omega), List.getElem?_map, hx]
        rfl
      have HT := Lib.hid (congrArg (List.map one) (take_snoc (prs_at hx)))
      have HO := Lib.hid ho
      have HC := Lib.hid hc
      clear ho hc hx
      go_wp2_with (at_builtin; refine wpList_app _ rfl _ _ 58 rfl (New w) 20 i1 _ 1 16 Tryz.underlying58 hj hy0 hy1 hy2 rfl _ _ _ rfl (HO.out.alloc _) ⟨wr.heap.size, 0, none⟩ 1 1 [.iface 184 (.agg #[.int .i64 x, .int .i64 k])] rfl (by decide) rfl (built_at (by simp)) (by simp [Value.oneCell']) (by simp only [maxLen]; omega) (by omega) ?_; intro g2 o2 c2 w' ho' hc')
      go_roundw
      case rel =>
        obtain ⟨h1, h2⟩ := fresh_app HC.out ho' hc'
        exact ⟨k + 1, by omega, by go_num, by rw [HT.out, List.map_append]; exact h1, h2⟩
      case measure => simp [intOf]; omega
    · obtain rfl : k = ids.length := by omega
      rw [← hlp, List.take_length, hlp] at ho
      obtain ⟨va, vc, rfl⟩ := ho.sl
      obtain ⟨g2, o2, rfl, hS2, hg2, hcap2, hmax2⟩ := ho.some_ (by omega)
      have HO := Lib.hid ho
      have HC := Lib.hid hc
      clear ho hc
      go_wp2_with fail
      refine (sort_any 110 cf1 swo1 (fun _ _ => rfl) before_any HO.out hn).mono ?_
      rintro e w2 ⟨rfl, l2, hl2, hm2, ho2, hc2⟩
      have hn2 : ∀ W : World, ∀ b, b < W.heap.size → b = g2 → New w b := fun _ b _ h => by rw [h]; exact hS2
      have ho3 := ho2.take mo (by omega)
      have HC2 := Lib.hid (HC.out.of_new (hc2.mono (hn2 _)))
      have HO3 := Lib.hid ho3
      have HM2 := Lib.hid hm2
      clear hc2 ho2 ho3 hm2 HO HC
      go_wp2_with fail
      have hown3 : Own w2 (New w) 20 1 (.slice (some ⟨g2, o2, none⟩) mo vc) mo ((l2.take mo).map one) := by
        have := HO3.out
        rwa [Nat.mul_one, ← List.map_take] at this
      refine (sort_any 111 cf2 swo2 (fun _ _ => rfl) places_any hown3 (by omega)).mono ?_
      rintro e w3 ⟨rfl, l3, hl3, hm3, ho4, hc3⟩
      have HC3 := Lib.hid (HC2.out.of_new (hc3.mono (hn2 _)))
      have HO4 := Lib.hid ho4
      have HM3 : Hid (∀ x, x ∈ l3 → x.1 ∈ ids) := fun x hx => prs_mem (HM2.out x (List.mem_of_mem_take (hm3 x hx)))
      clear hc3 ho4 hm3 HC2 HO3 HM2 hown3 hn2
      go_wp2_with fail
      go_loopw [8, 45] (fun s i wr => ∃ k : Nat, k ≤ mo ∧ i = .int .i64 k ∧ Own wr (New w3) 3 1 s k (((l3.map Prod.fst).take k).map (Value.int .i64)) ∧ Chg No w3 wr) (fun _ i _ => mo - (intOf i).toNat)
      case atStart => exact ⟨0, Nat.zero_le _, rfl, Own.nil _ _ _ _, Chg.refl _ _⟩
      case round =>
        obtain ⟨k, hk, rfl, ho, hc⟩ := hrel
        by_cases hlt : k < mo
        · obtain ⟨x, hx⟩ : ∃ x, l3[k]? = some x := ⟨l3[k], List.getElem?_eq_getElem (by omega)⟩
          have e0 : wr.cell? ⟨g2, o2 + k, none⟩ = some (.iface 184 (.agg #[.int .i64 x.1, .int .i64 x.2])) := by
            rw [(HO4.out.kept hc).cellAt k (by omega), List.getElem?_map, hx]
            rfl
          have hx2 : (l3.map Prod.fst)[k]? = some x.1 := by rw [List.getElem?_map, hx]; rfl
          have HT := Lib.hid (congrArg (List.map (Value.int .i64)) (take_snoc hx2))
          have HO := Lib.hid ho
          have HC := Lib.hid hc
          clear ho hc hx hx2
          go_wp2_with (at_builtin; refine wpList_app _ rfl _ _ 76 rfl (New w3) 3 i0 _ 1 8 Tryz.underlying76 hi hz0 hz1 hz2 rfl _ _ _ rfl (HO.out.alloc _) ⟨wr.heap.size, 0, none⟩ 1 1 [.int .i64 x.1] rfl (by decide) rfl (built_at (by simp)) (by simp [Value.oneCell']) (by simp only [maxLen]; omega) (by omega) ?_; intro g2 o2 c2 w' ho' hc')
          go_roundw
          case rel =>
            obtain ⟨h1, h2⟩ := fresh_app HC.out ho' hc'
            exact ⟨k + 1, by omega, by go_num, by rw [HT.out, List.map_append]; exact h1, h2⟩
          case measure => simp [intOf]; omega
        · obtain rfl : k = mo := by omega
          have hlm : (l3.map Prod.fst).length = k := by simpa using hl3
          have HO := Lib.hid ho
          have HC := Lib.hid hc
          clear ho hc
          go_wp2_with fail
          go_ret
          have ho := HO.out
          rw [← hlm, List.take_length] at ho
          refine ⟨_, _, rfl, ho.mono fun b _ h => Nat.le_trans HC3.out.size h, fun y hy => ?_, by omega, HC3.out.trans HC.out⟩
          obtain ⟨x, hx, rfl⟩ := List.mem_map.1 hy
          exact HM3.out x hx
set_option maxHeartbeats 1000000 in
theorem of_any (w : World) (S : Nat → Prop) (v : Value) (ids : List Int) (mo : Int) (own : Own w S 3 1 v ids.length (ids.map (Value.int .i64))) (hn : ids.length ≤ 1000000) :
    Calls Tryz.prog 75 #[v, .int .i64 mo] w fun e w' => ∃ (v' : Value) (ys : List Int), e = .returned v' ∧ Own w' (New w) 3 1 v' ys.length (ys.map (Value.int .i64)) ∧ (∀ y, y ∈ ys → y ∈ ids) ∧ ys.length ≤ ids.length ∧ (mo < 1 → ys = ids) ∧ Chg No w w' := by
  by_cases hs : 1 ≤ mo ∧ mo < ids.length
  · have := of_some w S v ids mo.toNat own hn (by omega) (by omega)
    rw [show ((mo.toNat : Nat) : Int) = mo by omega] at this
    exact this.mono fun e w' ⟨v', ys, a, b, c, d, e⟩ => ⟨v', ys, a, b, c, d, (fun h => by omega), e⟩
  · have HC := Lib.hid (Y.clone_ints w S v ids.length _ own (by omega) (by
      intro u hu
      obtain ⟨x, _, rfl⟩ := List.mem_map.1 hu
      rfl))
    obtain ⟨va, vc, rfl⟩ := own.sl
    clear own
    by_cases h1 : mo < 1
    · have hg : decide (mo < 1) = true := decide_eq_true h1
      clear hs
      go_enter Tryz.func75, Tryz.ntmps75
      go_wp2_with fail
      refine HC.out.mono ?_
      rintro e w1 ⟨v', rfl, ho, hc⟩
      have HO := Lib.hid ho
      have H1 := Lib.hid hc
      clear ho hc
      go_wp2_with fail
      go_ret
      exact ⟨_, ids, rfl, HO.out, (fun _ h => h), Nat.le_refl _, (fun _ => rfl), H1.out⟩
    · have hg : decide (mo < 1) = false := decide_eq_false h1
      have h2 : (ids.length : Int) ≤ mo := by omega
      have hg2 : decide ((ids.length : Int) ≤ mo) = true := decide_eq_true h2
      clear hs
      go_enter Tryz.func75, Tryz.ntmps75
      go_wp2_with fail
      refine HC.out.mono ?_
      rintro e w1 ⟨v', rfl, ho, hc⟩
      have HO := Lib.hid ho
      have H1 := Lib.hid hc
      clear ho hc
      go_wp2_with fail
      go_ret
      exact ⟨_, ids, rfl, HO.out, (fun _ h => h), Nat.le_refl _, (fun _ => rfl), H1.out⟩
end Go.Proofs.YtdgphoemjeakaaaGreatDoor.Sb
namespace Go.Proofs.YtdgphoemjeakaaaGreatDoor.Y
open Rg
open Go.RowKit K P U Mg Wk
set_option maxRecDepth 100000
abbrev sca (a : At) (rv tv : Value) (s : V.Sys) : Array Value := sc a.v a.g rv tv s
theorem sc20 (a : At) (rv tv : Value) (s : V.Sys) : (sca a rv tv s)[20]? = some (.int .i64 s.now) := by kernel_rfl
theorem sc21 (a : At) (rv tv : Value) (s : V.Sys) : (sca a rv tv s)[21]? = some (.slice (some ⟨a.g, 0, none⟩) 3 3) := by kernel_rfl
theorem sc22 (a : At) (rv tv : Value) (s : V.Sys) : (sca a rv tv s)[22]? = some rv := by kernel_rfl
theorem sc30 (a : At) (rv tv : Value) (s : V.Sys) : (sca a rv tv s)[30]? = some (.bool s.proxy) := by kernel_rfl
theorem sc18 (a : At) (rv tv : Value) (s : V.Sys) : (sca a rv tv s)[18]? = some (.int .i64 (a.v 18)) := by kernel_rfl
theorem sc14 (a : At) (rv tv : Value) (s : V.Sys) : (sca a rv tv s)[14]? = some (.int .i64 (a.v 14)) := by kernel_rfl
section
variable {a : At} {S : Nat → Prop} {w0 wr wk w' : World} {cs cs' : Array Value} {rv rv' tv tv' : Value} {tn tn' : Nat} {tx tx' : List Value} {s s' : V.Sys}
theorem St.base (h : St a S w0 cs rv tv tn tx s wr) (c : Chg No wr wk) : St a (K.nx S w0 wr) wk cs rv tv tn tx s wk := St.start (Y2.good.kept h.1 c)
theorem St.rebase (h0 : St a S w0 cs rv tv tn tx s wr) (c : Chg No wr wk) (h : St a (K.nx S w0 wr) wk cs' rv' tv' tn' tx' s' w') : St a S w0 cs' rv' tv' tn' tx' s' w' := by
  have h1 := h0.2.size
  have h2 := c.size
  refine ⟨Y2.wide.mono h.1 (fun k hk => ?_) fun _ hk => hk.2, (h0.2.trans c.of_no).step h.2 fun k hk hT => hT.1.resolve_right (by omega)⟩
  obtain ⟨h3 | h3, h4⟩ := hk
  · exact ⟨h3.1, h4⟩
  · exact ⟨.inr (by omega), h4⟩
end
theorem take_snoc {α β : Type} (f : α → β) {l : List α} {n : Nat} {x : α} (h : l[n]? = some x) : (l.take (n + 1)).map f = (l.take n).map f ++ [f x] := by
  rw [List.take_add_one, h, List.map_append]; rfl
theorem pods_small {li now made : Int} {ps : List M.Pod} {n : Nat} (h : V.PodsOk li now made ps) (hl : V.load ps ≤ n) (hn : n ≤ 1000000) (l1 : li ≤ 1000) (n1 : now ≤ 1000000) : M.Ok ps ∧ ps.length ≤ 1000100 ∧ ∀ q, q ∈ ps → q.busy < 1099511627776 := by
  have := h.len
  refine ⟨⟨by omega, fun q hq => ?_⟩, by omega, fun q hq => ?_⟩
  · obtain ⟨a, b, c, d⟩ := h.pod q hq
    omega
  · obtain ⟨a, b, c, d⟩ := h.pod q hq
    omega
theorem busyAt_in {li now made : Int} {ps : List M.Pod} (h : V.PodsOk li now made ps) (l0 : 0 ≤ li) (l1 : li ≤ 1000) (id : Int) : L.In (V.busyAt ps id) := by
  unfold V.busyAt
  split
  · exact ⟨Int.le_refl _, by omega⟩
  · rename_i q hq
    obtain ⟨a, b, c, d⟩ := h.pod q (List.mem_of_find?_eq_some hq)
    exact ⟨b.1, by omega⟩
theorem room {ps : List M.Pod} {ys : List Int} {li : Int} (h : ¬ V.least (ys.map (V.busyAt ps)) li ys.length < 0) : V.busyAt ps (ys.getD (V.least (ys.map (V.busyAt ps)) li ys.length).toNat 0) < li := by
  have h1 := V.least_lt (ys.map (V.busyAt ps)) li ys.length (by omega)
  obtain ⟨h2, h3⟩ := V.least_bd (ys.map (V.busyAt ps)) li ys.length
  have h4 : (V.least (ys.map (V.busyAt ps)) li ys.length).toNat < ys.length := by omega
  simp only [List.getD, List.getElem?_map, List.getElem?_eq_getElem h4, Option.map_some, Option.getD_some] at h1 ⊢
  exact h1
theorem sentGo_cons (li now : Int) (x : Int × Int) (q : List (Int × Int)) (ps : List M.Pod) (rs : List V.Req) : V.sentGo li now (x :: q) ps rs = if V.least ((M.ready ps).map (V.busyAt ps)) li (M.ready ps).length < 0 then (x :: q, ps, rs) else V.sentGo li now q (M.enter ps ((M.ready ps).getD (V.least ((M.ready ps).map (V.busyAt ps)) li (M.ready ps).length).toNat 0)).2 (V.fly now ((M.ready ps).getD (V.least ((M.ready ps).map (V.busyAt ps)) li (M.ready ps).length).toNat 0) rs x.1) := rfl
set_option maxHeartbeats 8000000 in
theorem sent_any {a : At} {S : Nat → Prop} {w0 : World} {rv tv : Value} {tn : Nat} {tx : List Value} {s : V.Sys} {w : World} (h : St a S w0 (sca a rv tv s) rv tv tn tx s w) (may : mayB a.v = true) (exv : a.E.ex → a.v = vdef) (pl : V.Pl s.now s.made s.q s.pods s.rs) (n1 : s.now ≤ 1000000) (hr : s.rs.length ≤ 1000000) :
    Calls Tryz.prog 51 #[.pointer (some ⟨a.p, 0, none⟩)] w fun e w' => e = .returned (.tuple #[]) ∧ ∃ q ps rs, V.Pl s.now s.made q ps rs ∧ rs.length = s.rs.length ∧ (a.E.ex → V.sentGo 10 s.now s.q s.pods s.rs = (q, ps, rs)) ∧ St a S w0 (sca a rv tv s) rv tv tn tx { s with q := q, pods := ps, rs := rs } w' := by
  have H := Lib.hid h
  have HPL := Lib.hid pl
  have HEX := Lib.hid exv
  obtain ⟨-, -, -, -, -, -, -, -, -, -, ⟨l0, l1⟩, -⟩ := may_bd may
  obtain ⟨px, hpx⟩ : ∃ b, s.proxy = b := ⟨_, rfl⟩
  have HPX := Lib.hid hpx
  clear h pl hpx may exv
  go_enter Tryz.func51, Tryz.ntmps51
  go_wp2_with fail
  go_loopg [] s.q.length (fun g wr => ∃ (q : List (Int × Int)) (ps : List M.Pod) (rs : List V.Req), g = q.length ∧ Hid (V.Pl s.now s.made q ps rs ∧ (a.E.ex → V.sentGo 10 s.now s.q s.pods s.rs = V.sentGo 10 s.now q ps rs) ∧ rs.length = s.rs.length ∧ St a S w0 (sca a rv tv s) rv tv tn tx { s with q := q, pods := ps, rs := rs } wr))
  case atStart => exact ⟨s.q, s.pods, s.rs, rfl, HPL.out, (fun _ => rfl), rfl, H.out⟩
  case round =>
    obtain ⟨q, ps, rs, rfl, HR⟩ := hrel
    have H1 := Lib.hid HR.out.2.2.2
    obtain ⟨OK, hps, hbusy⟩ := pods_small (n := s.rs.length) HR.out.1.ok.pods (by have := HR.out.1.ok.load; have := HR.out.2.2.1; omega) hr (by decide) n1
    have HPS := Lib.hid hps
    have HBU := Lib.hid hbusy
    have HO2 := Lib.hid OK
    clear OK hps hbusy
    go_wp2_with fail
    refine (waits_any H1.out (sc21 a rv tv s)).mono ?_
    rintro e w1 ⟨rfl, hc1⟩
    have C1 := Lib.hid hc1
    have H2 := Lib.hid (H1.out.no hc1)
    clear H1 hc1
    go_wp2_with fail
    obtain ⟨C, hq, _⟩ := H2.out.queue
    refine (B.all_any w1 C a.q q a.dp s.ql hq (by have := HR.out.1.ok.qlen; omega)).mono ?_
    rintro e w2 ⟨v, rfl, ho, hc2⟩
    obtain ⟨va, cap, rfl⟩ := ho.sl
    have H3 := Lib.hid (H2.out.no hc2)
    have C2 := Lib.hid (C1.out.trans hc2)
    clear H2 hq ho hc2 C1
    cases q with
    | nil =>
      go_wp2
      go_end0
      exact ⟨rfl, [], ps, rs, HR.out.1, HR.out.2.2.1, HR.out.2.1, H3.out⟩
    | cons x q =>
      have k0 : decide (0 < ((q.length + 1 : Nat) : Int)) = true := decide_eq_true (by omega)
      simp only [List.length_cons]
      go_wp2_with fail
      refine (pods_any H3.out (sc21 a rv tv s)).mono ?_
      rintro e w3 ⟨rfl, hc3⟩
      have H4 := Lib.hid (H3.out.no hc3)
      have C3 := Lib.hid (C2.out.trans hc3)
      have HSZ : wr.heap.size ≤ w3.heap.size := C3.out.size
      clear H3 hc3 C2
      go_wp2_with fail
      obtain ⟨C, hl, _⟩ := H4.out.life
      refine (A.ready_any w3 C a.l ps s.made hl (by have := HPS.out; omega)).mono ?_
      rintro e w4 ⟨v4, rfl, ho4, hc4⟩
      have H5 := Lib.hid (H4.out.no hc4)
      have HO4 := Lib.hid ho4
      have HSZ4 : w3.heap.size ≤ w4.heap.size := hc4.size
      have C4 := Lib.hid (C3.out.trans hc4)
      clear H4 hl ho4 hc4 C3
      have HBI := Lib.hid (busyAt_in HR.out.1.ok.pods (by decide) (by decide))
      have hrl := V.ready_len ps
      have hcn := HR.out.1.ok.pods.cnt
      have hidl : (M.ready ps).length ≤ 100 := by omega
      have c30 : w4.cell? ⟨a.p, 30, none⟩ = some (.bool px) := by rw [H5.out.blk.cell, sc30, HPX.out]
      have c18 : w4.cell? ⟨a.p, 18, none⟩ = some (.int .i64 (a.v 18)) := by rw [H5.out.blk.cell, sc18]
      obtain ⟨i1, hi1, hy0, hy1, hy2⟩ := info_parts info141
      clear hrl hcn
      go_upto_if 20 with fail
      go_cut [2] from 9 to 77 (fun s2 wx => ∃ (ys : List Int) (va : Option Addr) (cap : Nat), s2 = .slice va ys.length cap ∧ ys.length ≤ 100 ∧ Hid ((∀ y, y ∈ ys → y ∈ M.ready ps) ∧ (a.E.ex → ys = M.ready ps)) ∧ Hid (Own wx (fun k => wr.heap.size ≤ k) 3 1 (.slice va ys.length cap) ys.length (ys.map (Value.int .i64))) ∧ Hid (Chg No wr wx))
      case first =>
        cases px
        · go_wp2
          go_meet
          obtain ⟨va5, cap5, rfl⟩ := HO4.out.sl
          exact ⟨M.ready ps, va5, cap5, rfl, hidl, ⟨fun _ h => h, fun _ => rfl⟩, HO4.out.mono (T := fun k => wr.heap.size ≤ k) fun k _ hk => Nat.le_trans HSZ hk, C4.out⟩
        · go_wp2_with fail
          refine (Sb.of_any w4 _ v4 (M.ready ps) (a.v 18) HO4.out (by omega)).mono ?_
          rintro e w5 ⟨v5, ys, rfl, ho5, hm5, hn5, he5, hc5⟩
          have HO5 := Lib.hid (ho5.mono (T := fun k => wr.heap.size ≤ k) fun k _ hk => Nat.le_trans (Nat.le_trans HSZ HSZ4) hk)
          have C5 := Lib.hid (C4.out.trans hc5)
          have HM5 : Hid ((∀ y, y ∈ ys → y ∈ M.ready ps) ∧ (a.E.ex → ys = M.ready ps)) := ⟨hm5, fun hx => he5 (by rw [HEX.out hx]; decide)⟩
          obtain ⟨va5, cap5, rfl⟩ := ho5.sl
          clear ho5 hc5 hm5 he5
          go_wp2_with fail
          go_meet
          exact ⟨ys, va5, cap5, rfl, by omega, HM5, HO5, C5⟩
      case rest =>
        obtain ⟨ys, va5, cap5, rfl, hyl, HM5, HO5, C5⟩ := hcut
        have H6 := Lib.hid (HR.out.2.2.2.no C5.out)
        clear H5 HO4 c30 c18 C4 HSZ HSZ4
        generalize wc = w5 at *
        have HBY : Hid (∀ wx, St a S w0 (sca a rv tv s) rv tv tn tx { s with q := x :: q, pods := ps, rs := rs } wx → ∀ i, Calls Tryz.prog 77 #[.pointer (some ⟨a.p, 0, none⟩), .int .i64 i] wx fun e w' => e = .returned (.int .i64 (V.busyAt ps i)) ∧ Chg No wx w') := fun wx hx i => busy_any hx (sc21 a rv tv s) (by have := HPS.out; show ps.length ≤ _; omega) i
        go_wp2_with fail
        go_loopw [3, 30] (fun o i wr => ∃ n : Nat, n ≤ ys.length ∧ i = .int .i64 n ∧ Own wr (New w5) 141 1 o n ((ys.take n).map fun i => Value.complex .f64 (Fl.fl (V.busyAt ps i)) (Fl.fl 0)) ∧ Chg No w5 wr) (fun _ i _ => ys.length - (intOf i).toNat)
        case atStart => exact ⟨0, Nat.zero_le _, rfl, Own.nil _ _ _ _, Chg.refl _ _⟩
        case round =>
          obtain ⟨n, hk, rfl, ho, hc⟩ := hrel
          by_cases hlt : n < ys.length
          · obtain ⟨g5, o5, rfl, hS, hg, hcap, hmax⟩ := HO5.out.some_ (by omega)
            obtain ⟨i, hi⟩ : ∃ i, ys[n]? = some i := ⟨ys[n], List.getElem?_eq_getElem hlt⟩
            rename World => wr2
            have e0 : wr2.cell? ⟨g5, o5 + n, none⟩ = some (.int .i64 i) := by
              rw [(HO5.out.kept hc).cellAt n (by omega), List.getElem?_map, hi]; rfl
            have HT := Lib.hid (take_snoc (fun i => Value.complex .f64 (Fl.fl (V.busyAt ps i)) (Fl.fl 0)) hi)
            have HO6 := Lib.hid ho
            have HC6 := Lib.hid hc
            have H7 := Lib.hid (H6.out.no hc)
            clear ho hc hi hS hmax
            go_wp2_with fail
            refine (HBY.out _ H7.out i).mono ?_
            rintro e w8 ⟨rfl, hc8⟩
            have HO8 := Lib.hid (HO6.out.kept hc8)
            have HC8 := Lib.hid (HC6.out.trans hc8)
            have HB := Lib.hid (HBI.out i)
            clear HO6 HC6 H7 hc8
            generalize V.busyAt ps i = b at *
            go_wp2_with (first | (go_at_call 76; refine (L.of_in b 0 _ HB.out ⟨by omega, by omega⟩).mono ?_; rintro e w' ⟨rfl, rfl⟩) | (at_builtin; refine wpList_app _ rfl _ _ 140 rfl (New w5) 141 i1 _ 1 16 Tryz.underlying140 hi1 hy0 hy1 hy2 rfl _ _ _ rfl (HO8.out.alloc _) ⟨w8.heap.size, 0, none⟩ 1 1 [.complex .f64 (Fl.fl b) (Fl.fl 0)] rfl (by decide) rfl (built_at (by simp)) (by simp [Value.oneCell']) (by simp only [maxLen]; omega) (by omega) ?_; intro g2 o2 c2 w' ho' hc'))
            go_roundw
            case rel =>
              obtain ⟨h1, h2⟩ := fresh_app HC8.out ho' hc'
              exact ⟨n + 1, by omega, by go_num, by rw [HT.out]; exact h1, h2⟩
            case measure => simp [intOf]; omega
          · obtain rfl : n = ys.length := by omega
            rename World => wr2
            rw [List.take_length] at ho
            have H7 := Lib.hid (H6.out.no hc)
            have C7 := Lib.hid (C5.out.trans hc)
            have HO7 := Lib.hid (HO5.out.kept hc)
            have c14 : wr2.cell? ⟨a.p, 14, none⟩ = some (.int .i64 (a.v 14)) := by rw [H7.out.blk.cell, sc14]
            have HLE : Hid (∀ v, Own wr2 (New w5) 141 1 v ys.length (ys.map fun i => Value.complex .f64 (Fl.fl (V.busyAt ps i)) (Fl.fl 0)) → Calls Tryz.prog 78 #[v, .int .i64 (a.v 14)] wr2 fun e w' => e = .returned (.int .i64 (V.least (ys.map (V.busyAt ps)) (a.v 14) ys.length)) ∧ wr2 = w') := fun v hv => by
              have h1 := least_any wr2 (New w5) v (ys.map (V.busyAt ps)) (by rw [List.length_map, List.map_map]; exact hv) (fun b hb => by
                obtain ⟨i, _, rfl⟩ := List.mem_map.1 hb
                exact HBI.out i) (by rw [List.length_map]; omega) (a.v 14)
              rw [List.length_map] at h1
              exact h1
            have HO8 := Lib.hid ho
            clear H6 HO5 ho hc
            go_wp2_with fail
            refine (HLE.out _ HO8.out).mono ?_
            rintro e w9 ⟨rfl, rfl⟩
            obtain ⟨kb0, kb1⟩ := V.least_bd (ys.map (V.busyAt ps)) (a.v 14) ys.length
            have HRM := Lib.hid (room (ps := ps) (ys := ys) (li := a.v 14))
            have HGO : Hid (a.E.ex → V.least (ys.map (V.busyAt ps)) (a.v 14) ys.length = V.least ((M.ready ps).map (V.busyAt ps)) 10 (M.ready ps).length) := fun hx => by rw [HM5.out.2 hx, HEX.out hx]; rfl
            clear HLE HO8 c14 HBY
            generalize hkk : V.least (ys.map (V.busyAt ps)) (a.v 14) ys.length = kk at *
            by_cases hk0 : kk < 0
            · have k1 : decide (kk < 0) = true := decide_eq_true hk0
              go_wp2
              go_returns
              refine ⟨rfl, x :: q, ps, rs, HR.out.1, HR.out.2.2.1, fun hx => ?_, H7.out⟩
              rw [HR.out.2.1 hx, sentGo_cons, ← HGO.out hx, if_pos hk0]
            · have k1 : decide (kk < 0) = false := decide_eq_false hk0
              obtain ⟨k, rfl⟩ : ∃ k : Nat, kk = k := ⟨kk.toNat, by omega⟩
              rw [Int.toNat_natCast] at HRM
              have hkl : k < ys.length := by omega
              obtain ⟨id, hid⟩ : ∃ id, ys.getD k 0 = id := ⟨_, rfl⟩
              have hidk : ys[k]? = some id := by
                rw [← hid]
                simp only [List.getD, List.getElem?_eq_getElem hkl, Option.getD_some]
              rw [hid] at HRM
              have HIR := Lib.hid (HM5.out.1 id (List.mem_of_getElem? hidk))
              have HGI : Hid (a.E.ex → V.sentGo 10 s.now s.q s.pods s.rs = V.sentGo 10 s.now q (M.enter ps id).2 (V.fly s.now id rs x.1)) := fun hx => by
                rw [HR.out.2.1 hx, sentGo_cons, ← HGO.out hx, if_neg hk0, Int.toNat_natCast, ← HM5.out.2 hx, hid]
              have hqx := HR.out.1.ok.qat x List.mem_cons_self
              obtain ⟨kx, hkx⟩ : ∃ kx : Nat, x.1 = kx := ⟨x.1.toNat, by omega⟩
              have hkxl : kx < rs.length := by omega
              have hrl : rs.length ≤ 1000000 := by have := HR.out.2.2.1; omega
              have HB7 := Lib.hid (HR.out.2.2.2.base C7.out)
              have hdis : ∀ k, wr.heap.size ≤ k → K.nx S w0 wr k → False := fun k h1 h2 => by have := h2.2; omega
              have HDIS := Lib.hid hdis
              clear hdis H7 hid HGO HM5
              generalize hA : K.nx S w0 wr = A7 at HB7 HDIS
              have HA7 := Lib.hid hA
              clear hA
              obtain ⟨g5, o5, rfl, _, _, _, _⟩ := HO7.out.some_ (by omega)
              go_wp2_with fail
              refine (waits_any HB7.out (sc21 a rv tv s)).mono ?_
              rintro e w10 ⟨rfl, hc10⟩
              have HB8 := Lib.hid (HB7.out.no hc10)
              clear HB7 hc10
              go_wp2_with fail
              obtain ⟨C10, hq10, back10⟩ := HB8.out.queue
              refine (B.take_any w10 C10 a.q x q a.dp s.ql hq10 (by have := HR.out.1.ok.qlen; simp only [List.length_cons] at this; omega)).mono ?_
              rintro e w11 ⟨rfl, hq11, hc11⟩
              have HB9 := Lib.hid (back10 q s.ql w11 (QueueR.wide.nx' QueueR.good hq11) hc11)
              clear HB8 hq10 back10 hq11 hc11
              rw [hkx]
              go_wp2_with fail
              refine (stand_any HB9.out (sc22 a rv tv s) (sc20 a rv tv s) kx hkxl (by show rs.length ≤ _; omega) 2).mono ?_
              rintro e w12 ⟨rfl, hs12⟩
              have HB10 := Lib.hid hs12
              clear HB9 hs12
              have hsl : (V.stand s.now 2 rs kx).length = rs.length := V.stand_len ..
              obtain ⟨g6, o6, c6, hrv⟩ := HB10.out.rform (by show 0 < (V.stand s.now 2 rs kx).length; omega)
              have hrv' : rv = .slice (some ⟨g6, o6, none⟩) rs.length c6 := by rw [hrv]; show Value.slice _ (V.stand s.now 2 rs kx).length _ = _; rw [hsl]
              have HRV := Lib.hid hrv'
              obtain ⟨r, hr0⟩ : ∃ r, rs[kx]? = some r := ⟨rs[kx], List.getElem?_eq_getElem hkxl⟩
              have es : V.stand s.now 2 rs kx = rs.set kx { r with st := 2, since := s.now } := by
                unfold V.stand
                rw [Int.toNat_natCast]
                exact modify_at _ _ _ _ hr0
              have ef : V.fly s.now id rs kx = rs.set kx { r with st := 2, since := s.now, pod := id } := by
                unfold V.fly
                rw [Int.toNat_natCast]
                exact modify_at _ _ _ _ hr0
              have HES := Lib.hid es
              have HEF := Lib.hid ef
              clear hrv hrv' es ef hr0
              go_wp2_with fail
              refine sent14_at (by kernel_rfl) a.p g6 o6 rs.length c6 g5 o5 ys.length cap5 kx k id (fun _ b w' => St a A7 wr2 (sca a rv tv s) rv tv tn tx (cond b { s with q := q, ql := s.ql, pods := ps, rs := V.fly s.now id rs kx } { s with q := q, ql := s.ql, pods := ps, rs := V.stand s.now 2 rs kx }) w') hkxl hkl
                (fun _ w' y => by rw [y.blk.cell, sc22, HRV.out]) (fun _ w' y => by rw [(HO7.out.chg y.2 HDIS.out).cellAt k (by omega), List.getElem?_map, hidk]; rfl) (fun _ w' y => ?_) _ rfl rfl rfl rfl rfl () (HB10.out.no (Chg.refl No _).drew) fun _ w13 h13 => ?_
              · have y' : St a A7 wr2 (sca a rv tv s) rv tv tn tx { s with q := q, ql := s.ql, pods := ps, rs := rs.set kx { r with st := 2, since := s.now } } w' := by
                  rw [← HES.out]; exact y
                obtain ⟨⟨u0, h1⟩, h2, h3⟩ := y'.reqSetV HRV.out (by show rs.length = (rs.set kx _).length; rw [List.length_set]) (k := kx) (j := 3) (u := .int .i64 id) (q := { r with st := 2, since := s.now }) (q' := { r with st := 2, since := s.now, pod := id }) (by show (rs.set kx _)[kx]? = _; rw [List.getElem?_set_self hkxl]) (by decide) rfl
                refine ⟨u0, h1, h2, ?_⟩
                have e : (rs.set kx { r with st := 2, since := s.now }).set kx { r with st := 2, since := s.now, pod := id } = rs.set kx { r with st := 2, since := s.now, pod := id } := List.set_set _
                have h4 : St a A7 wr2 (sca a rv tv s) rv tv tn tx { s with q := q, ql := s.ql, pods := ps, rs := (rs.set kx { r with st := 2, since := s.now }).set kx { r with st := 2, since := s.now, pod := id } } _ := h3
                rw [e, ← HEF.out] at h4
                exact h4
              · have HB11 : Hid (St a A7 wr2 (sca a rv tv s) rv tv tn tx { s with q := q, ql := s.ql, pods := ps, rs := V.fly s.now id rs kx } w13) := h13
                clear h13 HB10
                simp only [lay_sent14, puts, List.setIfInBounds_toArray, List.set_cons_succ, List.set_cons_zero]
                go_wp2_with fail
                refine sent15_at (by kernel_rfl) a.p a.l g5 o5 ys.length cap5 k id (M.enter ps id).1 (fun _ b w' => St a A7 wr2 (sca a rv tv s) rv tv tn tx (cond b { s with q := q, ql := s.ql, pods := (M.enter ps id).2, rs := V.fly s.now id rs kx } { s with q := q, ql := s.ql, pods := ps, rs := V.fly s.now id rs kx }) w') hkl
                  (fun _ w' y => by rw [(HO7.out.chg y.2 HDIS.out).cellAt k (by omega), List.getElem?_map, hidk]; rfl) (fun _ w' y => (pods_any y (sc21 a rv tv s)).mono fun e w'' ⟨h1, h2⟩ => ⟨h1, y.no h2⟩) (fun _ w' y => ?_) _ rfl rfl rfl rfl () (HB11.out.no (Chg.refl No _).drew) fun _ w14 h14 => ?_
                · obtain ⟨C, hl, back⟩ := y.life
                  refine (A.enter_any w' C a.l ps s.made hl HO2.out id HBU.out).mono fun e w'' ⟨h1, h2, h3⟩ => ⟨h1, back _ s.made w'' (LifeR.wide.nx' LifeR.good h2) h3⟩
                · have HB12 : Hid (St a A7 wr2 (sca a rv tv s) rv tv tn tx { s with q := q, ql := s.ql, pods := (M.enter ps id).2, rs := V.fly s.now id rs kx } w14) := h14
                  clear h14 HB11
                  simp only [lay_sent15, puts, List.setIfInBounds_toArray, List.set_cons_succ, List.set_cons_zero]
                  go_wp2_with fail
                  go_roundg q.length
                  case measure => simp
                  case rel =>
                    rw [hkx] at HGI
                    obtain ⟨o1, o2, o3, o4⟩ := HR.out
                    have o5 := o1.one (Int.lt_of_lt_of_le (HRM.out hk0) l1) HIR.out
                    rw [hkx] at o5
                    refine ⟨q, (M.enter ps id).2, V.fly s.now id rs kx, rfl, o5, HGI.out, by rw [V.fly_len]; exact o3, ?_⟩
                    have h12 := HB12.out
                    rw [← HA7.out] at h12
                    exact St.rebase o4 C7.out h12
end Go.Proofs.YtdgphoemjeakaaaGreatDoor.Y
