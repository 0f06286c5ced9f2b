/- The whole service: regions that draw their order. The whole service: regions that draw their order. -/
import Derived.Test.YtdgphoemjeakaaaGreatDoorR09
import Derived.Test.YtdgphoemjeakaaaGreatDoorR10
namespace Go.Proofs.YtdgphoemjeakaaaGreatDoor.Y
open Go.RowKit K P W Rg
theorem info161 : (Tryz.prog.info? 161).map (fun i => (i.zero, i.size, i.bytes)) = some (some (.agg #[.int .i64 0, .int .i64 0, .int .i64 0]), 3, 24) := by kernel_rfl
noncomputable def R_scr3 : Array Oper := reg Tryz.f61 3
theorem scr3_size : R_scr3.size = 12 := by kernel_rfl
noncomputable def lay_scr3 (p : Nat) (vi : Option Addr) (ni : Nat) (ci : Nat) (now : Int) (smp : Int) (x : ((Option Addr × Nat) × Nat)) : Lay := [(some 15, .slice (vi) (ni) (ci)),
  (some 16, .pointer (some ⟨p, 0, none⟩)),
  (some 17, .pointer (some ⟨p, 0, none⟩)),
  (some 18, .pointer (some ⟨p, 0, none⟩)),
  (some 19, .pointer (some ⟨p, 19, none⟩)),
  (some 20, .int .i64 smp),
  (some 21, .pointer (some ⟨p, 0, none⟩)),
  (some 22, .pointer (some ⟨p, 0, none⟩)),
  (some 23, .pointer (some ⟨p, 20, none⟩)),
  (some 24, .int .i64 now),
  (some 25, .slice (x.1.1) (x.2) (x.1.2)),
  (some 5, .slice (x.1.1) (x.2) (x.1.2))]
set_option maxRecDepth 1000000 in
theorem scr3_at {ops : Array Oper} (ho : ops = R_scr3) (p : Nat) (vi : Option Addr) (ni : Nat) (ci : Nat) (now : Int) (smp : Int) (X : (((Option Addr × Nat) × Nat)) → Bool → World → Prop)  (M5 : ∀ (x : (((Option Addr × Nat) × Nat))) (w : World), X x false w → w.cell? ⟨p, 19, none⟩ = some (.int .i64 smp)) (M9 : ∀ (x : (((Option Addr × Nat) × Nat))) (w : World), X x false w → w.cell? ⟨p, 20, none⟩ = some (.int .i64 now)) (C10 : ∀ (x : (((Option Addr × Nat) × Nat))) (w : World), X x false w → Calls Tryz.prog 91 #[.slice (vi) (ni) (ci), .int .i64 smp, .int .i64 now] w fun e w' => ∃ y : ((Option Addr × Nat) × Nat), e = .returned (.slice (y.1.1) (y.2) (y.1.2)) ∧ X y true w') (t0 : Array Value) (hz : t0.size = 79) (ht0 : t0[0]? = some (.pointer (some ⟨p, 0, none⟩))) (ht3 : t0[3]? = some (.slice (vi) (ni) (ci))) {id : Nat} {Q : Exit → Act → World → Prop} {w : World} (x0 : (((Option Addr × Nat) × Nat))) (start : X x0 false w.drew) (fin : ∀ x w', X x true w' → Q .normal ⟨puts ((lay_scr3 p vi ni ci now smp) x) t0, []⟩ w') : (Code.region id ops true).wp Tryz.prog Q ⟨t0, []⟩ w := by
  subst ho
  have F : Flows (X := (((Option Addr × Nat) × Nat))) R_scr3 (lay_scr3 p vi ni ci now smp) [(0, .pointer (some ⟨p, 0, none⟩)), (3, .slice (vi) (ni) (ci))] t0 9 := Flows.of (by kernel_rfl) hz (fun _ => by kernel_rfl) (.cons ht0 (.cons ht3 .nil))
  refine wp_flow (Wd := (fun x L => X x (L 10))) F rfl x0 start (fun i hi => ?_) (fun x L w' hl hw => fin x w' ?_)
  · rw [scr3_size] at hi
    match i, hi with
    | 0, _ => exact stepP F rfl (fun _ => rfl) (fun _ _ => by kernel_rfl) (fun _ => rfl) (fun _ _ _ h => h)
    | 1, _ => exact stepP F rfl (fun _ => rfl) (fun _ _ => by kernel_rfl) (fun _ => rfl) (fun _ _ _ h => h)
    | 2, _ => exact stepP F rfl (fun _ => rfl) (fun _ _ => by kernel_rfl) (fun _ => rfl) (fun _ _ _ h => h)
    | 3, _ => exact stepP F rfl (fun _ => rfl) (fun _ _ => by kernel_rfl) (fun _ => rfl) (fun _ _ _ h => h)
    | 4, _ => exact stepP F rfl (fun _ => rfl) (fun _ _ => by kernel_rfl) (fun _ => rfl) (fun _ _ _ h => h)
    | 5, _ => exact stepL (fun _ => ⟨p, 19, none⟩) F rfl (fun _ => rfl) (fun _ => rfl) rfl (fun _ => rfl) Tryz.underlying3 rfl (fun x L w z1 z2 z3 h => by
      have h : X x (L 10) w := h
      have e10 := fls z3 9 10 (by kernel_rfl)
      simp only [e10] at h ⊢
      exact ⟨M5 x  w h, h⟩)
    | 6, _ => exact stepP F rfl (fun _ => rfl) (fun _ _ => by kernel_rfl) (fun _ => rfl) (fun _ _ _ h => h)
    | 7, _ => exact stepP F rfl (fun _ => rfl) (fun _ _ => by kernel_rfl) (fun _ => rfl) (fun _ _ _ h => h)
    | 8, _ => exact stepP F rfl (fun _ => rfl) (fun _ _ => by kernel_rfl) (fun _ => rfl) (fun _ _ _ h => h)
    | 9, _ => exact stepL (fun _ => ⟨p, 20, none⟩) F rfl (fun _ => rfl) (fun _ => rfl) rfl (fun _ => rfl) Tryz.underlying2 rfl (fun x L w z1 z2 z3 h => by
      have h : X x (L 10) w := h
      have e10 := fls z3 9 10 (by kernel_rfl)
      simp only [e10] at h ⊢
      exact ⟨M9 x  w h, h⟩)
    | 10, _ => exact stepY 91 (fun _ => #[.slice (vi) (ni) (ci), .int .i64 smp, .int .i64 now]) F rfl (fun _ => rfl) (fun _ => rfl) (fun _ _ => by kernel_rfl) (fun x L w z1 z2 z3 h => by
      have h : X x (L 10) w := h
      have e10 : L 10 = false := z1
      simp only [e10] at h ⊢
      exact (C10 x  w h).mono fun e w' ⟨y, he, hx⟩ => ⟨y, he, but_all (D := [10, 11]) (desc 9 z1 z3 (by kernel_rfl)) rfl, hx⟩)
    | 11, _ => exact stepP F rfl (fun _ => rfl) (fun _ _ => by kernel_rfl) (fun _ => rfl) (fun _ _ _ h => h)
    | n + 12, h => exact absurd h (by omega)
  · have hw : X x (L 10) w' := hw
    rw [hl 10 (by rw [scr3_size]; omega)] at hw
    exact hw
noncomputable def R_scr11 : Array Oper := reg Tryz.f61 11
theorem scr11_size : R_scr11.size = 16 := by kernel_rfl
noncomputable def lay_scr11 (p : Nat) (B : Nat) (va : Option Addr) (n : Nat) (c : Nat) (pid : Int) (now : Int) (since : Int) (busy : Int) (x : Nat × (Option Addr × Nat)) : Lay := [(some 44, .slice (va) (n) (c)),
  (some 45, .int .i64 pid),
  (some 46, .pointer (some ⟨p, 0, none⟩)),
  (some 47, .pointer (some ⟨p, 0, none⟩)),
  (some 48, .pointer (some ⟨p, 20, none⟩)),
  (some 49, .int .i64 now),
  (some 50, .pointer (some ⟨B, 3, none⟩)),
  (some 51, .int .i64 since),
  (some 52, .int .i64 (now - since)),
  (some 53, .pointer (some ⟨B, 2, none⟩)),
  (some 54, .int .i64 busy),
  (some 55, .int .i64 (busy * 1000)),
  (some 56, .agg #[.int .i64 pid, .int .i64 (now - since), .int .i64 (busy * 1000)]),
  (some 57, .slice (some ⟨x.1, 0, none⟩) (1) (1)),
  (some 58, .slice (x.2.1) (n + 1) (x.2.2)),
  (some 4, .slice (x.2.1) (n + 1) (x.2.2))]
set_option maxRecDepth 1000000 in
theorem scr11_at {ops : Array Oper} (ho : ops = R_scr11) (p : Nat) (B : Nat) (va : Option Addr) (n : Nat) (c : Nat) (pid : Int) (now : Int) (since : Int) (busy : Int) (X : (Nat × (Option Addr × Nat)) → Bool → Bool → World → Prop) (hq0 : 0 ≤ since) (hq1 : since ≤ now) (hq2 : now ≤ 1099511627776) (hq3 : 0 ≤ busy) (hq4 : busy ≤ 1000) (M5 : ∀ (x : (Nat × (Option Addr × Nat))) (w : World), X x false false w → w.cell? ⟨p, 20, none⟩ = some (.int .i64 now)) (M7 : ∀ (x : (Nat × (Option Addr × Nat))) (w : World), X x false false w → w.cell? ⟨B, 3, none⟩ = some (.int .i64 since)) (M10 : ∀ (x : (Nat × (Option Addr × Nat))) (w : World), X x false false w → w.cell? ⟨B, 2, none⟩ = some (.int .i64 busy)) (B13 : ∀ (x : (Nat × (Option Addr × Nat))) (w : World), X x false false w → X (w.heap.size, x.2) true false (w.alloc (.cells #[.int .i64 pid, .int .i64 (now - since), .int .i64 (busy * 1000)] 161))) (B14 : ∀ (x : (Nat × (Option Addr × Nat))) (w : World), X x true false w → ∃ (S : Nat → Prop) (xs : List Value), Own w S 161 3 (.slice (va) (n) (c)) (n) xs ∧ (∀ j u, ([.int .i64 pid, .int .i64 (now - since), .int .i64 (busy * 1000)] : List Value)[j]? = some u → w.cell? ((⟨x.1, 0, none⟩ : Addr).add j) = some u) ∧ (n) + 1 ≤ maxLen ∧ ((n) + 1) * 24 ≤ 140737488355328 ∧ ∀ g' o' c' w', Own w' (nx S w w') 161 3 (.slice (some ⟨g', o', none⟩) ((n) + 1) c') ((n) + 1) (xs ++ [.int .i64 pid, .int .i64 (now - since), .int .i64 (busy * 1000)]) → Chg S w w' → X (x.1, (some ⟨g', o', none⟩, c')) true true w') (t0 : Array Value) (hz : t0.size = 79) (ht0 : t0[0]? = some (.pointer (some ⟨p, 0, none⟩))) (ht4 : t0[4]? = some (.slice (va) (n) (c))) (ht7 : t0[7]? = some (.int .i64 pid)) (ht9 : t0[9]? = some (.pointer (some ⟨B, 0, none⟩))) {id : Nat} {Q : Exit → Act → World → Prop} {w : World} (x0 : (Nat × (Option Addr × Nat))) (start : X x0 false false w.drew) (fin : ∀ x w', X x true true w' → Q .normal ⟨puts ((lay_scr11 p B va n c pid now since busy) x) t0, []⟩ w') : (Code.region id ops true).wp Tryz.prog Q ⟨t0, []⟩ w := by
  subst ho
  have F : Flows (X := (Nat × (Option Addr × Nat))) R_scr11 (lay_scr11 p B va n c pid now since busy) [(0, .pointer (some ⟨p, 0, none⟩)), (4, .slice (va) (n) (c)), (7, .int .i64 pid), (9, .pointer (some ⟨B, 0, none⟩))] t0 9 := Flows.of (by kernel_rfl) hz (fun _ => by kernel_rfl) (.cons ht0 (.cons ht4 (.cons ht7 (.cons ht9 .nil))))
  refine wp_flow (Wd := (fun x L => X x (L 13) (L 14))) F rfl x0 start (fun i hi => ?_) (fun x L w' hl hw => fin x w' ?_)
  · rw [scr11_size] at hi
    match i, hi with
    | 0, _ => exact stepP F rfl (fun _ => rfl) (fun _ _ => by kernel_rfl) (fun _ => rfl) (fun _ _ _ h => h)
    | 1, _ => exact stepP F rfl (fun _ => rfl) (fun _ _ => by kernel_rfl) (fun _ => rfl) (fun _ _ _ h => h)
    | 2, _ => exact stepP F rfl (fun _ => rfl) (fun _ _ => by kernel_rfl) (fun _ => rfl) (fun _ _ _ h => h)
    | 3, _ => exact stepP F rfl (fun _ => rfl) (fun _ _ => by kernel_rfl) (fun _ => rfl) (fun _ _ _ h => h)
    | 4, _ => exact stepP F rfl (fun _ => rfl) (fun _ _ => by kernel_rfl) (fun _ => rfl) (fun _ _ _ h => h)
    | 5, _ => exact stepL (fun _ => ⟨p, 20, none⟩) F rfl (fun _ => rfl) (fun _ => rfl) rfl (fun _ => rfl) Tryz.underlying2 rfl (fun x L w z1 z2 z3 h => by
      have h : X x (L 13) (L 14) w := h
      have e13 := fls z3 9 13 (by kernel_rfl)
      have e14 := fls z3 9 14 (by kernel_rfl)
      simp only [e13, e14] at h ⊢
      exact ⟨M5 x  w h, h⟩)
    | 6, _ => exact stepP F rfl (fun _ => rfl) (fun _ _ => by kernel_rfl) (fun _ => rfl) (fun _ _ _ h => h)
    | 7, _ => exact stepL (fun _ => ⟨B, 3, none⟩) F rfl (fun _ => rfl) (fun _ => rfl) rfl (fun _ => rfl) Tryz.underlying2 rfl (fun x L w z1 z2 z3 h => by
      have h : X x (L 13) (L 14) w := h
      have e13 := fls z3 9 13 (by kernel_rfl)
      have e14 := fls z3 9 14 (by kernel_rfl)
      simp only [e13, e14] at h ⊢
      exact ⟨M7 x  w h, h⟩)
    | 8, _ => exact stepE (fun _ => .int .i64 (IntKind.i64.wrap (now - since))) F rfl (fun _ => rfl) (fun _ _ => by kernel_rfl) (fun _ => rfl) (fun _ => congrArg (Value.int .i64) (by rw [IntKind.wrap_i64]; omega)) (fun _ _ _ h => h)
    | 9, _ => exact stepP F rfl (fun _ => rfl) (fun _ _ => by kernel_rfl) (fun _ => rfl) (fun _ _ _ h => h)
    | 10, _ => exact stepL (fun _ => ⟨B, 2, none⟩) F rfl (fun _ => rfl) (fun _ => rfl) rfl (fun _ => rfl) Tryz.underlying3 rfl (fun x L w z1 z2 z3 h => by
      have h : X x (L 13) (L 14) w := h
      have e13 := fls z3 9 13 (by kernel_rfl)
      have e14 := fls z3 9 14 (by kernel_rfl)
      simp only [e13, e14] at h ⊢
      exact ⟨M10 x  w h, h⟩)
    | 11, _ => exact stepE (fun _ => .int .i64 (IntKind.i64.wrap (busy * 1000))) F rfl (fun _ => rfl) (fun _ _ => by kernel_rfl) (fun _ => rfl) (fun _ => congrArg (Value.int .i64) (by rw [IntKind.wrap_i64]; omega)) (fun _ _ _ h => h)
    | 12, _ => exact stepP F rfl (fun _ => rfl) (fun _ _ => by kernel_rfl) (fun _ => rfl) (fun _ _ _ h => h)
    | 13, _ => exact stepM (fun x z => (z, x.2)) (fun _ z => .slice (some ⟨z, 0, none⟩) (1) (1)) (fun _ => .cells #[.int .i64 pid, .int .i64 (now - since), .int .i64 (busy * 1000)] 161) F rfl (fun _ => rfl) (fun _ _ => by kernel_rfl) (fun _ _ => rfl) (fun x L w z1 z2 z3 h => by
      have h : X x (L 13) (L 14) w := h
      have e13 : L 13 = false := z1
      have e14 := fls z3 9 14 (by kernel_rfl)
      simp only [e13, e14] at h ⊢
      exact ⟨but_all (D := [13, 14, 15]) (desc 9 z1 z3 (by kernel_rfl)) rfl, B13 x  w h⟩)
    | 14, _ => exact stepA (fun x y => (x.1, y)) (.tmp 44) (.tmp 57) 158 (fun _ => .slice (va) (n) (c)) (fun x => (x.1, n)) F rfl (fun _ => rfl) rfl (fun _ => rfl) (fun _ => rfl) (fun _ _ => rfl) Tryz.underlying158 (fun _ => [.int .i64 pid, .int .i64 (now - since), .int .i64 (busy * 1000)]) info161 rfl (fun _ => rfl) (fun _ => rfl) (fun x L w z1 z2 z3 h => by
      have h : X x (L 13) (L 14) w := h
      have e13 := z2 13 (by kernel_rfl)
      have e14 : L 14 = false := z1
      simp only [e13, e14] at h ⊢
      obtain ⟨S, xs, hown, hnews, h63, hby, hK⟩ := B14 x  w h
      exact ⟨S, xs, hown, hnews, h63, hby, fun g' o' c' w' ho' hc' => ⟨but_all (D := [14, 15]) (desc 9 z1 z3 (by kernel_rfl)) rfl, hK g' o' c' w' ho' hc'⟩⟩)
    | 15, _ => exact stepP F rfl (fun _ => rfl) (fun _ _ => by kernel_rfl) (fun _ => rfl) (fun _ _ _ h => h)
    | n + 16, h => exact absurd h (by omega)
  · have hw : X x (L 13) (L 14) w' := hw
    rw [hl 13 (by rw [scr11_size]; omega), hl 14 (by rw [scr11_size]; omega)] at hw
    exact hw
noncomputable def R_see3 : Array Oper := reg Tryz.f13 3
theorem see3_size : R_see3.size = 30 := by kernel_rfl
noncomputable def lay_see3 (p : Nat) (l : Nat) (q : Nat) (d : Nat) (now : Int) (want : Int) (pn : Bool) (px : Bool) (np : Nat) (nq : Nat) (x : (Option Addr × Nat) × (Option Addr × Nat) × Nat × Bool) : Lay := [(some 9, .pointer (some ⟨p, 0, none⟩)),
  (some 10, .pointer (some ⟨p, 0, none⟩)),
  (some 11, .pointer (some ⟨p, 20, none⟩)),
  (some 12, .int .i64 now),
  (some 13, .pointer (some ⟨p, 0, none⟩)),
  (some 14, .pointer (some ⟨p, 0, none⟩)),
  (some 15, .pointer (some ⟨p, 29, none⟩)),
  (some 16, .int .i64 want),
  (some 17, .pointer (some ⟨p, 0, none⟩)),
  (some 18, .pointer (some ⟨p, 0, none⟩)),
  (some 19, .pointer (some ⟨p, 23, none⟩)),
  (some 20, .pointer (some ⟨p, 27, none⟩)),
  (some 21, .bool pn),
  (some 22, .pointer (some ⟨p, 0, none⟩)),
  (some 23, .pointer (some ⟨p, 0, none⟩)),
  (some 24, .pointer (some ⟨p, 30, none⟩)),
  (some 25, .bool px),
  (some 26, .pointer (some ⟨p, 0, none⟩)),
  (some 27, .pointer (some ⟨l, 0, none⟩)),
  (some 28, .slice (x.1.1) (np) (x.1.2)),
  (some 29, .pointer (some ⟨p, 0, none⟩)),
  (some 30, .pointer (some ⟨q, 0, none⟩)),
  (some 31, .slice (x.2.1.1) (nq) (x.2.1.2)),
  (some 32, .int .i64 (nq)),
  (some 33, .pointer (some ⟨p, 0, none⟩)),
  (some 34, .pointer (some ⟨d, 0, none⟩)),
  (some 35, .bool x.2.2.2),
  (some 36, .agg #[.int .i64 now, .int .i64 want, .bool pn, .bool px, .slice (x.1.1) (np) (x.1.2), .int .i64 nq, .int .i64 0, .int .i64 0, .int .i64 0, .int .i64 0, .int .i64 0, .int .i64 0, .int .i64 0, .int .i64 0, .bool x.2.2.2]),
  (some 3, .pointer (some ⟨x.2.2.1, 0, none⟩)),
  (none, undef)]
set_option maxRecDepth 1000000 in
theorem see3_at {ops : Array Oper} (ho : ops = R_see3) (p : Nat) (l : Nat) (q : Nat) (d : Nat) (now : Int) (want : Int) (pn : Bool) (px : Bool) (np : Nat) (nq : Nat) (X : ((Option Addr × Nat) × (Option Addr × Nat) × Nat × Bool) → Bool → Bool → Bool → World → Prop)  (M3 : ∀ (x : ((Option Addr × Nat) × (Option Addr × Nat) × Nat × Bool)) (b0 : Bool) (b1 : Bool) (w : World), X x b0 b1 false w → w.cell? ⟨p, 20, none⟩ = some (.int .i64 now)) (M7 : ∀ (x : ((Option Addr × Nat) × (Option Addr × Nat) × Nat × Bool)) (b0 : Bool) (b1 : Bool) (w : World), X x b0 b1 false w → w.cell? ⟨p, 29, none⟩ = some (.int .i64 want)) (M12 : ∀ (x : ((Option Addr × Nat) × (Option Addr × Nat) × Nat × Bool)) (b0 : Bool) (b1 : Bool) (w : World), X x b0 b1 false w → w.cell? ⟨p, 27, none⟩ = some (.bool pn)) (M16 : ∀ (x : ((Option Addr × Nat) × (Option Addr × Nat) × Nat × Bool)) (b0 : Bool) (b1 : Bool) (w : World), X x b0 b1 false w → w.cell? ⟨p, 30, none⟩ = some (.bool px)) (C18 : ∀ (x : ((Option Addr × Nat) × (Option Addr × Nat) × Nat × Bool)) (b1 : Bool) (w : World), X x false b1 false w → Calls Tryz.prog 21 #[.pointer (some ⟨p, 0, none⟩)] w fun e w' => e = .returned (.pointer (some ⟨l, 0, none⟩)) ∧ X x false b1 false w') (C19 : ∀ (x : ((Option Addr × Nat) × (Option Addr × Nat) × Nat × Bool)) (b1 : Bool) (w : World), X x false b1 false w → Calls Tryz.prog 32 #[.pointer (some ⟨l, 0, none⟩)] w fun e w' => ∃ y : (Option Addr × Nat), e = .returned (.slice (y.1) (np) (y.2)) ∧ X (y, x.2.1, x.2.2.1, x.2.2.2) true b1 false w') (C21 : ∀ (x : ((Option Addr × Nat) × (Option Addr × Nat) × Nat × Bool)) (b1 : Bool) (w : World), X x true b1 false w → Calls Tryz.prog 33 #[.pointer (some ⟨p, 0, none⟩)] w fun e w' => e = .returned (.pointer (some ⟨q, 0, none⟩)) ∧ X x true b1 false w') (C22 : ∀ (x : ((Option Addr × Nat) × (Option Addr × Nat) × Nat × Bool)) (b1 : Bool) (w : World), X x true b1 false w → Calls Tryz.prog 34 #[.pointer (some ⟨q, 0, none⟩)] w fun e w' => ∃ y : (Option Addr × Nat), e = .returned (.slice (y.1) (nq) (y.2)) ∧ X (x.1, y, x.2.2.1, x.2.2.2) true b1 false w') (C25 : ∀ (x : ((Option Addr × Nat) × (Option Addr × Nat) × Nat × Bool)) (b1 : Bool) (w : World), X x true b1 false w → Calls Tryz.prog 35 #[.pointer (some ⟨p, 0, none⟩)] w fun e w' => e = .returned (.pointer (some ⟨d, 0, none⟩)) ∧ X x true b1 false w') (C26 : ∀ (x : ((Option Addr × Nat) × (Option Addr × Nat) × Nat × Bool)) (b1 : Bool) (w : World), X x true b1 false w → Calls Tryz.prog 36 #[.pointer (some ⟨d, 0, none⟩)] w fun e w' => ∃ y : Bool, e = .returned (.bool y) ∧ X (x.1, x.2.1, x.2.2.1, y) true b1 false w') (B28 : ∀ (x : ((Option Addr × Nat) × (Option Addr × Nat) × Nat × Bool)) (b0 : Bool) (w : World), X x b0 false false w → X (x.1, x.2.1, w.heap.size, x.2.2.2) b0 true false (w.alloc (.cells #[.int .i64 0, .int .i64 0, .bool false, .bool false, .slice none 0 0, .int .i64 0, .int .i64 0, .int .i64 0, .int .i64 0, .int .i64 0, .int .i64 0, .int .i64 0, .int .i64 0, .int .i64 0, .bool false] 38))) (S29 : ∀ (x : ((Option Addr × Nat) × (Option Addr × Nat) × Nat × Bool)) (w : World), X x true true false w → w.there x.2.2.1 0 15 ∧ X x true true true (w.setCells x.2.2.1 0 [.int .i64 now, .int .i64 want, .bool pn, .bool px, .slice (x.1.1) (np) (x.1.2), .int .i64 nq, .int .i64 0, .int .i64 0, .int .i64 0, .int .i64 0, .int .i64 0, .int .i64 0, .int .i64 0, .int .i64 0, .bool x.2.2.2])) (t0 : Array Value) (hz : t0.size = 60) (ht0 : t0[0]? = some (.pointer (some ⟨p, 0, none⟩))) {id : Nat} {Q : Exit → Act → World → Prop} {w : World} (x0 : ((Option Addr × Nat) × (Option Addr × Nat) × Nat × Bool)) (start : X x0 false false false w.drew) (fin : ∀ x w', X x true true true w' → Q .normal ⟨puts ((lay_see3 p l q d now want pn px np nq) x) t0, []⟩ w') : (Code.region id ops true).wp Tryz.prog Q ⟨t0, []⟩ w := by
  subst ho
  have F : Flows (X := ((Option Addr × Nat) × (Option Addr × Nat) × Nat × Bool)) R_see3 (lay_see3 p l q d now want pn px np nq) [(0, .pointer (some ⟨p, 0, none⟩))] t0 9 := Flows.of (by kernel_rfl) hz (fun _ => by kernel_rfl) (.cons ht0 .nil)
  refine wp_flow (Wd := (fun x L => X x (L 19) (L 28) (L 29))) F rfl x0 start (fun i hi => ?_) (fun x L w' hl hw => fin x w' ?_)
  · rw [see3_size] at hi
    match i, hi with
    | 0, _ => exact stepP F rfl (fun _ => rfl) (fun _ _ => by kernel_rfl) (fun _ => rfl) (fun _ _ _ h => h)
    | 1, _ => exact stepP F rfl (fun _ => rfl) (fun _ _ => by kernel_rfl) (fun _ => rfl) (fun _ _ _ h => h)
    | 2, _ => exact stepP F rfl (fun _ => rfl) (fun _ _ => by kernel_rfl) (fun _ => rfl) (fun _ _ _ h => h)
    | 3, _ => exact stepL (fun _ => ⟨p, 20, none⟩) F rfl (fun _ => rfl) (fun _ => rfl) rfl (fun _ => rfl) Tryz.underlying2 rfl (fun x L w z1 z2 z3 h => by
      have h : X x (L 19) (L 28) (L 29) w := h
      have e29 := fls z3 9 29 (by kernel_rfl)
      simp only [e29] at h ⊢
      exact ⟨M3 x _ _ w h, h⟩)
    | 4, _ => exact stepP F rfl (fun _ => rfl) (fun _ _ => by kernel_rfl) (fun _ => rfl) (fun _ _ _ h => h)
    | 5, _ => exact stepP F rfl (fun _ => rfl) (fun _ _ => by kernel_rfl) (fun _ => rfl) (fun _ _ _ h => h)
    | 6, _ => exact stepP F rfl (fun _ => rfl) (fun _ _ => by kernel_rfl) (fun _ => rfl) (fun _ _ _ h => h)
    | 7, _ => exact stepL (fun _ => ⟨p, 29, none⟩) F rfl (fun _ => rfl) (fun _ => rfl) rfl (fun _ => rfl) Tryz.underlying3 rfl (fun x L w z1 z2 z3 h => by
      have h : X x (L 19) (L 28) (L 29) w := h
      have e29 := fls z3 9 29 (by kernel_rfl)
      simp only [e29] at h ⊢
      exact ⟨M7 x _ _ w h, h⟩)
    | 8, _ => exact stepP F rfl (fun _ => rfl) (fun _ _ => by kernel_rfl) (fun _ => rfl) (fun _ _ _ h => h)
    | 9, _ => exact stepP F rfl (fun _ => rfl) (fun _ _ => by kernel_rfl) (fun _ => rfl) (fun _ _ _ h => h)
    | 10, _ => exact stepP F rfl (fun _ => rfl) (fun _ _ => by kernel_rfl) (fun _ => rfl) (fun _ _ _ h => h)
    | 11, _ => exact stepP F rfl (fun _ => rfl) (fun _ _ => by kernel_rfl) (fun _ => rfl) (fun _ _ _ h => h)
    | 12, _ => exact stepL (fun _ => ⟨p, 27, none⟩) F rfl (fun _ => rfl) (fun _ => rfl) rfl (fun _ => rfl) Tryz.underlying4 rfl (fun x L w z1 z2 z3 h => by
      have h : X x (L 19) (L 28) (L 29) w := h
      have e29 := fls z3 9 29 (by kernel_rfl)
      simp only [e29] at h ⊢
      exact ⟨M12 x _ _ w h, h⟩)
    | 13, _ => exact stepP F rfl (fun _ => rfl) (fun _ _ => by kernel_rfl) (fun _ => rfl) (fun _ _ _ h => h)
    | 14, _ => exact stepP F rfl (fun _ => rfl) (fun _ _ => by kernel_rfl) (fun _ => rfl) (fun _ _ _ h => h)
    | 15, _ => exact stepP F rfl (fun _ => rfl) (fun _ _ => by kernel_rfl) (fun _ => rfl) (fun _ _ _ h => h)
    | 16, _ => exact stepL (fun _ => ⟨p, 30, none⟩) F rfl (fun _ => rfl) (fun _ => rfl) rfl (fun _ => rfl) Tryz.underlying4 rfl (fun x L w z1 z2 z3 h => by
      have h : X x (L 19) (L 28) (L 29) w := h
      have e29 := fls z3 9 29 (by kernel_rfl)
      simp only [e29] at h ⊢
      exact ⟨M16 x _ _ w h, h⟩)
    | 17, _ => exact stepP F rfl (fun _ => rfl) (fun _ _ => by kernel_rfl) (fun _ => rfl) (fun _ _ _ h => h)
    | 18, _ => exact stepC 21 (fun _ => #[.pointer (some ⟨p, 0, none⟩)]) F rfl (fun _ => rfl) (fun _ => rfl) (fun _ _ => by kernel_rfl) (fun x L w z1 z2 z3 h => by
      have h : X x (L 19) (L 28) (L 29) w := h
      have e19 := fls z3 9 19 (by kernel_rfl)
      have e29 := fls z3 9 29 (by kernel_rfl)
      simp only [e19, e29] at h ⊢
      exact C18 x _ w h)
    | 19, _ => exact stepY 32 (fun _ => #[.pointer (some ⟨l, 0, none⟩)]) F rfl (fun _ => rfl) (fun _ => rfl) (fun _ _ => by kernel_rfl) (fun x L w z1 z2 z3 h => by
      have h : X x (L 19) (L 28) (L 29) w := h
      have e19 : L 19 = false := z1
      have e29 := fls z3 9 29 (by kernel_rfl)
      simp only [e19, e29] at h ⊢
      exact (C19 x _ w h).mono fun e w' ⟨y, he, hx⟩ => ⟨(y, x.2.1, x.2.2.1, x.2.2.2), he, but_all (D := [19, 27, 29]) (desc 9 z1 z3 (by kernel_rfl)) rfl, hx⟩)
    | 20, _ => exact stepP F rfl (fun _ => rfl) (fun _ _ => by kernel_rfl) (fun _ => rfl) (fun _ _ _ h => h)
    | 21, _ => exact stepC 33 (fun _ => #[.pointer (some ⟨p, 0, none⟩)]) F rfl (fun _ => rfl) (fun _ => rfl) (fun _ _ => by kernel_rfl) (fun x L w z1 z2 z3 h => by
      have h : X x (L 19) (L 28) (L 29) w := h
      have e19 := z2 19 (by kernel_rfl)
      have e29 := fls z3 9 29 (by kernel_rfl)
      simp only [e19, e29] at h ⊢
      exact C21 x _ w h)
    | 22, _ => exact stepY 34 (fun _ => #[.pointer (some ⟨q, 0, none⟩)]) F rfl (fun _ => rfl) (fun _ => rfl) (fun _ _ => by kernel_rfl) (fun x L w z1 z2 z3 h => by
      have h : X x (L 19) (L 28) (L 29) w := h
      have e19 := z2 19 (by kernel_rfl)
      have e29 := fls z3 9 29 (by kernel_rfl)
      simp only [e19, e29] at h ⊢
      exact (C22 x _ w h).mono fun e w' ⟨y, he, hx⟩ => ⟨(x.1, y, x.2.2.1, x.2.2.2), he, but_all (D := [22, 23, 27, 29]) (desc 9 z1 z3 (by kernel_rfl)) rfl, hx⟩)
    | 23, _ => exact stepP F rfl (fun _ => rfl) (fun _ _ => by kernel_rfl) (fun _ => rfl) (fun _ _ _ h => h)
    | 24, _ => exact stepP F rfl (fun _ => rfl) (fun _ _ => by kernel_rfl) (fun _ => rfl) (fun _ _ _ h => h)
    | 25, _ => exact stepC 35 (fun _ => #[.pointer (some ⟨p, 0, none⟩)]) F rfl (fun _ => rfl) (fun _ => rfl) (fun _ _ => by kernel_rfl) (fun x L w z1 z2 z3 h => by
      have h : X x (L 19) (L 28) (L 29) w := h
      have e19 := z2 19 (by kernel_rfl)
      have e29 := fls z3 9 29 (by kernel_rfl)
      simp only [e19, e29] at h ⊢
      exact C25 x _ w h)
    | 26, _ => exact stepY 36 (fun _ => #[.pointer (some ⟨d, 0, none⟩)]) F rfl (fun _ => rfl) (fun _ => rfl) (fun _ _ => by kernel_rfl) (fun x L w z1 z2 z3 h => by
      have h : X x (L 19) (L 28) (L 29) w := h
      have e19 := z2 19 (by kernel_rfl)
      have e29 := fls z3 9 29 (by kernel_rfl)
      simp only [e19, e29] at h ⊢
      exact (C26 x _ w h).mono fun e w' ⟨y, he, hx⟩ => ⟨(x.1, x.2.1, x.2.2.1, y), he, but_all (D := [26, 27, 29]) (desc 9 z1 z3 (by kernel_rfl)) rfl, hx⟩)
    | 27, _ => exact stepP F rfl (fun _ => rfl) (fun _ _ => by kernel_rfl) (fun _ => rfl) (fun _ _ _ h => h)
    | 28, _ => exact stepM (fun x z => (x.1, x.2.1, z, x.2.2.2)) (fun _ z => .pointer (some ⟨z, 0, none⟩)) (fun _ => .cells #[.int .i64 0, .int .i64 0, .bool false, .bool false, .slice none 0 0, .int .i64 0, .int .i64 0, .int .i64 0, .int .i64 0, .int .i64 0, .int .i64 0, .int .i64 0, .int .i64 0, .int .i64 0, .bool false] 38) F rfl (fun _ => rfl) (fun _ _ => by kernel_rfl) (fun _ _ => rfl) (fun x L w z1 z2 z3 h => by
      have h : X x (L 19) (L 28) (L 29) w := h
      have e28 : L 28 = false := z1
      have e29 := fls z3 9 29 (by kernel_rfl)
      simp only [e28, e29] at h ⊢
      exact ⟨but_all (D := [28, 29]) (desc 9 z1 z3 (by kernel_rfl)) rfl, B28 x _ w h⟩)
    | 29, _ => exact stepRS (fun x => (x.2.2.1, 0)) F rfl (fun _ => rfl) (fun _ => rfl) rfl rfl (fun _ => rfl) (fun _ => rfl) (fun _ => by kernel_rfl) (fun _ => by kernel_rfl) (fun x L w z1 z2 z3 h => by
      have h : X x (L 19) (L 28) (L 29) w := h
      have e19 := z2 19 (by kernel_rfl)
      have e28 := z2 28 (by kernel_rfl)
      have e29 : L 29 = false := z1
      simp only [e19, e28, e29] at h ⊢
      exact S29 x  w h)
    | n + 30, h => exact absurd h (by omega)
  · have hw : X x (L 19) (L 28) (L 29) w' := hw
    rw [hl 19 (by rw [see3_size]; omega), hl 28 (by rw [see3_size]; omega), hl 29 (by rw [see3_size]; omega)] at hw
    exact hw
end Go.Proofs.YtdgphoemjeakaaaGreatDoor.Y
namespace Go.Proofs.YtdgphoemjeakaaaGreatDoor.Y
open Go.RowKit K P W Rg
noncomputable def R_tik1 : Array Oper := reg Tryz.f31 1
theorem tik1_size : R_tik1.size = 14 := by kernel_rfl
noncomputable def lay_tik1 (p : Nat) (q : Nat) (now : Int) (m : Nat) (tio : Int) (x : (Option Addr × Nat)) : Lay := [(some 13, .pointer (some ⟨p, 0, none⟩)),
  (some 14, .pointer (some ⟨q, 0, none⟩)),
  (some 15, .pointer (some ⟨p, 0, none⟩)),
  (some 16, .pointer (some ⟨p, 0, none⟩)),
  (some 17, .pointer (some ⟨p, 20, none⟩)),
  (some 18, .int .i64 now),
  (some 19, .pointer (some ⟨p, 0, none⟩)),
  (some 20, .pointer (some ⟨p, 0, none⟩)),
  (some 21, .pointer (some ⟨p, 0, none⟩)),
  (some 22, .pointer (some ⟨p, 16, none⟩)),
  (some 23, .int .i64 tio),
  (some 24, .slice (x.1) (m) (x.2)),
  (some 25, .int .i64 (m)),
  (some 26, .int .i64 0)]
set_option maxRecDepth 1000000 in
theorem tik1_at {ops : Array Oper} (ho : ops = R_tik1) (p : Nat) (q : Nat) (now : Int) (m : Nat) (tio : Int) (X : ((Option Addr × Nat)) → Bool → World → Prop)  (M5 : ∀ (x : ((Option Addr × Nat))) (w : World), X x false w → w.cell? ⟨p, 20, none⟩ = some (.int .i64 now)) (M10 : ∀ (x : ((Option Addr × Nat))) (w : World), X x false w → w.cell? ⟨p, 16, none⟩ = some (.int .i64 tio)) (C1 : ∀ (x : ((Option Addr × Nat))) (w : World), X x false w → Calls Tryz.prog 33 #[.pointer (some ⟨p, 0, none⟩)] w fun e w' => e = .returned (.pointer (some ⟨q, 0, none⟩)) ∧ X x false w') (C11 : ∀ (x : ((Option Addr × Nat))) (w : World), X x false w → Calls Tryz.prog 59 #[.pointer (some ⟨q, 0, none⟩), .int .i64 now, .int .i64 tio] w fun e w' => ∃ y : (Option Addr × Nat), e = .returned (.slice (y.1) (m) (y.2)) ∧ X y true w') (t0 : Array Value) (hz : t0.size = 201) (ht0 : t0[0]? = some (.pointer (some ⟨p, 0, none⟩))) {id : Nat} {Q : Exit → Act → World → Prop} {w : World} (x0 : ((Option Addr × Nat))) (start : X x0 false w.drew) (fin : ∀ x w', X x true w' → Q .normal ⟨puts ((lay_tik1 p q now m tio) x) t0, []⟩ w') : (Code.region id ops true).wp Tryz.prog Q ⟨t0, []⟩ w := by
  subst ho
  have F : Flows (X := ((Option Addr × Nat))) R_tik1 (lay_tik1 p q now m tio) [(0, .pointer (some ⟨p, 0, none⟩))] t0 9 := Flows.of (by kernel_rfl) hz (fun _ => by kernel_rfl) (.cons ht0 .nil)
  refine wp_flow (Wd := (fun x L => X x (L 11))) F rfl x0 start (fun i hi => ?_) (fun x L w' hl hw => fin x w' ?_)
  · rw [tik1_size] at hi
    match i, hi with
    | 0, _ => exact stepP F rfl (fun _ => rfl) (fun _ _ => by kernel_rfl) (fun _ => rfl) (fun _ _ _ h => h)
    | 1, _ => exact stepC 33 (fun _ => #[.pointer (some ⟨p, 0, none⟩)]) F rfl (fun _ => rfl) (fun _ => rfl) (fun _ _ => by kernel_rfl) (fun x L w z1 z2 z3 h => by
      have h : X x (L 11) w := h
      have e11 := fls z3 9 11 (by kernel_rfl)
      simp only [e11] at h ⊢
      exact C1 x  w h)
    | 2, _ => exact stepP F rfl (fun _ => rfl) (fun _ _ => by kernel_rfl) (fun _ => rfl) (fun _ _ _ h => h)
    | 3, _ => exact stepP F rfl (fun _ => rfl) (fun _ _ => by kernel_rfl) (fun _ => rfl) (fun _ _ _ h => h)
    | 4, _ => exact stepP F rfl (fun _ => rfl) (fun _ _ => by kernel_rfl) (fun _ => rfl) (fun _ _ _ h => h)
    | 5, _ => exact stepL (fun _ => ⟨p, 20, none⟩) F rfl (fun _ => rfl) (fun _ => rfl) rfl (fun _ => rfl) Tryz.underlying2 rfl (fun x L w z1 z2 z3 h => by
      have h : X x (L 11) w := h
      have e11 := fls z3 9 11 (by kernel_rfl)
      simp only [e11] at h ⊢
      exact ⟨M5 x  w h, h⟩)
    | 6, _ => exact stepP F rfl (fun _ => rfl) (fun _ _ => by kernel_rfl) (fun _ => rfl) (fun _ _ _ h => h)
    | 7, _ => exact stepP F rfl (fun _ => rfl) (fun _ _ => by kernel_rfl) (fun _ => rfl) (fun _ _ _ h => h)
    | 8, _ => exact stepP F rfl (fun _ => rfl) (fun _ _ => by kernel_rfl) (fun _ => rfl) (fun _ _ _ h => h)
    | 9, _ => exact stepP F rfl (fun _ => rfl) (fun _ _ => by kernel_rfl) (fun _ => rfl) (fun _ _ _ h => h)
    | 10, _ => exact stepL (fun _ => ⟨p, 16, none⟩) F rfl (fun _ => rfl) (fun _ => rfl) rfl (fun _ => rfl) Tryz.underlying3 rfl (fun x L w z1 z2 z3 h => by
      have h : X x (L 11) w := h
      have e11 := fls z3 9 11 (by kernel_rfl)
      simp only [e11] at h ⊢
      exact ⟨M10 x  w h, h⟩)
    | 11, _ => exact stepY 59 (fun _ => #[.pointer (some ⟨q, 0, none⟩), .int .i64 now, .int .i64 tio]) F rfl (fun _ => rfl) (fun _ => rfl) (fun _ _ => by kernel_rfl) (fun x L w z1 z2 z3 h => by
      have h : X x (L 11) w := h
      have e11 : L 11 = false := z1
      simp only [e11] at h ⊢
      exact (C11 x  w h).mono fun e w' ⟨y, he, hx⟩ => ⟨y, he, but_all (D := [11, 12]) (desc 9 z1 z3 (by kernel_rfl)) rfl, hx⟩)
    | 12, _ => exact stepP F rfl (fun _ => rfl) (fun _ _ => by kernel_rfl) (fun _ => rfl) (fun _ _ _ h => h)
    | 13, _ => exact stepP F rfl (fun _ => rfl) (fun _ _ => by kernel_rfl) (fun _ => rfl) (fun _ _ _ h => h)
    | n + 14, h => exact absurd h (by omega)
  · have hw : X x (L 11) w' := hw
    rw [hl 11 (by rw [tik1_size]; omega)] at hw
    exact hw
noncomputable def R_tik6 : Array Oper := reg Tryz.f31 6
theorem tik6_size : R_tik6.size = 12 := by kernel_rfl
noncomputable def lay_tik6 (p : Nat) (l : Nat) (now : Int) (rd : Int) (_ : Unit) : Lay := [(some 34, .pointer (some ⟨p, 0, none⟩)),
  (some 35, .pointer (some ⟨l, 0, none⟩)),
  (some 36, .pointer (some ⟨p, 0, none⟩)),
  (some 37, .pointer (some ⟨p, 0, none⟩)),
  (some 38, .pointer (some ⟨p, 20, none⟩)),
  (some 39, .int .i64 now),
  (some 40, .pointer (some ⟨p, 0, none⟩)),
  (some 41, .pointer (some ⟨p, 0, none⟩)),
  (some 42, .pointer (some ⟨p, 0, none⟩)),
  (some 43, .pointer (some ⟨p, 17, none⟩)),
  (some 44, .int .i64 rd),
  (some 45, .tuple #[])]
set_option maxRecDepth 1000000 in
theorem tik6_at {ops : Array Oper} (ho : ops = R_tik6) (p : Nat) (l : Nat) (now : Int) (rd : Int) (X : (Unit) → Bool → World → Prop)  (M5 : ∀ (x : (Unit)) (w : World), X x false w → w.cell? ⟨p, 20, none⟩ = some (.int .i64 now)) (M10 : ∀ (x : (Unit)) (w : World), X x false w → w.cell? ⟨p, 17, none⟩ = some (.int .i64 rd)) (C1 : ∀ (x : (Unit)) (w : World), X x false w → Calls Tryz.prog 21 #[.pointer (some ⟨p, 0, none⟩)] w fun e w' => e = .returned (.pointer (some ⟨l, 0, none⟩)) ∧ X x false w') (C11 : ∀ (x : (Unit)) (w : World), X x false w → Calls Tryz.prog 23 #[.pointer (some ⟨l, 0, none⟩), .int .i64 now, .int .i64 rd] w fun e w' => e = .returned (.tuple #[]) ∧ X x true w') (t0 : Array Value) (hz : t0.size = 201) (ht0 : t0[0]? = some (.pointer (some ⟨p, 0, none⟩))) {id : Nat} {Q : Exit → Act → World → Prop} {w : World} (x0 : (Unit)) (start : X x0 false w.drew) (fin : ∀ x w', X x true w' → Q .normal ⟨puts ((lay_tik6 p l now rd) x) t0, []⟩ w') : (Code.region id ops true).wp Tryz.prog Q ⟨t0, []⟩ w := by
  subst ho
  have F : Flows (X := (Unit)) R_tik6 (lay_tik6 p l now rd) [(0, .pointer (some ⟨p, 0, none⟩))] t0 9 := Flows.of (by kernel_rfl) hz (fun _ => by kernel_rfl) (.cons ht0 .nil)
  refine wp_flow (Wd := (fun x L => X x (L 11))) F rfl x0 start (fun i hi => ?_) (fun x L w' hl hw => fin x w' ?_)
  · rw [tik6_size] at hi
    match i, hi with
    | 0, _ => exact stepP F rfl (fun _ => rfl) (fun _ _ => by kernel_rfl) (fun _ => rfl) (fun _ _ _ h => h)
    | 1, _ => exact stepC 21 (fun _ => #[.pointer (some ⟨p, 0, none⟩)]) F rfl (fun _ => rfl) (fun _ => rfl) (fun _ _ => by kernel_rfl) (fun x L w z1 z2 z3 h => by
      have h : X x (L 11) w := h
      have e11 := fls z3 9 11 (by kernel_rfl)
      simp only [e11] at h ⊢
      exact C1 x  w h)
    | 2, _ => exact stepP F rfl (fun _ => rfl) (fun _ _ => by kernel_rfl) (fun _ => rfl) (fun _ _ _ h => h)
    | 3, _ => exact stepP F rfl (fun _ => rfl) (fun _ _ => by kernel_rfl) (fun _ => rfl) (fun _ _ _ h => h)
    | 4, _ => exact stepP F rfl (fun _ => rfl) (fun _ _ => by kernel_rfl) (fun _ => rfl) (fun _ _ _ h => h)
    | 5, _ => exact stepL (fun _ => ⟨p, 20, none⟩) F rfl (fun _ => rfl) (fun _ => rfl) rfl (fun _ => rfl) Tryz.underlying2 rfl (fun x L w z1 z2 z3 h => by
      have h : X x (L 11) w := h
      have e11 := fls z3 9 11 (by kernel_rfl)
      simp only [e11] at h ⊢
      exact ⟨M5 x  w h, h⟩)
    | 6, _ => exact stepP F rfl (fun _ => rfl) (fun _ _ => by kernel_rfl) (fun _ => rfl) (fun _ _ _ h => h)
    | 7, _ => exact stepP F rfl (fun _ => rfl) (fun _ _ => by kernel_rfl) (fun _ => rfl) (fun _ _ _ h => h)
    | 8, _ => exact stepP F rfl (fun _ => rfl) (fun _ _ => by kernel_rfl) (fun _ => rfl) (fun _ _ _ h => h)
    | 9, _ => exact stepP F rfl (fun _ => rfl) (fun _ _ => by kernel_rfl) (fun _ => rfl) (fun _ _ _ h => h)
    | 10, _ => exact stepL (fun _ => ⟨p, 17, none⟩) F rfl (fun _ => rfl) (fun _ => rfl) rfl (fun _ => rfl) Tryz.underlying3 rfl (fun x L w z1 z2 z3 h => by
      have h : X x (L 11) w := h
      have e11 := fls z3 9 11 (by kernel_rfl)
      simp only [e11] at h ⊢
      exact ⟨M10 x  w h, h⟩)
    | 11, _ => exact stepC 23 (fun _ => #[.pointer (some ⟨l, 0, none⟩), .int .i64 now, .int .i64 rd]) F rfl (fun _ => rfl) (fun _ => rfl) (fun _ _ => by kernel_rfl) (fun x L w z1 z2 z3 h => by
      have h : X x (L 11) w := h
      have e11 : L 11 = false := z1
      simp only [e11] at h ⊢
      exact C11 x  w h)
    | n + 12, h => exact absurd h (by omega)
  · have hw : X x (L 11) w' := hw
    rw [hl 11 (by rw [tik6_size]; omega)] at hw
    exact hw
noncomputable def R_tik9 : Array Oper := reg Tryz.f31 9
theorem tik9_size : R_tik9.size = 9 := by kernel_rfl
noncomputable def lay_tik9 (p : Nat) (d : Nat) (now : Int) (x : Int × Int) : Lay := [(some 58, .pointer (some ⟨p, 0, none⟩)),
  (some 59, .pointer (some ⟨d, 0, none⟩)),
  (some 60, .pointer (some ⟨p, 0, none⟩)),
  (some 61, .pointer (some ⟨p, 0, none⟩)),
  (some 62, .pointer (some ⟨p, 20, none⟩)),
  (some 63, .int .i64 now),
  (some 64, .pointer (some ⟨p, 0, none⟩)),
  (some 65, .int .i64 x.1),
  (some 66, .int .i64 x.2)]
set_option maxRecDepth 1000000 in
theorem tik9_at {ops : Array Oper} (ho : ops = R_tik9) (p : Nat) (d : Nat) (now : Int) (X : (Int × Int) → Bool → Bool → World → Prop)  (M5 : ∀ (x : (Int × Int)) (b0 : Bool) (w : World), X x b0 false w → w.cell? ⟨p, 20, none⟩ = some (.int .i64 now)) (C1 : ∀ (x : (Int × Int)) (w : World), X x false false w → Calls Tryz.prog 35 #[.pointer (some ⟨p, 0, none⟩)] w fun e w' => e = .returned (.pointer (some ⟨d, 0, none⟩)) ∧ X x false false w') (C7 : ∀ (x : (Int × Int)) (w : World), X x false false w → Calls Tryz.prog 61 #[.pointer (some ⟨p, 0, none⟩)] w fun e w' => ∃ y : Int, e = .returned (.int .i64 y) ∧ X (y, x.2) true false w') (C8 : ∀ (x : (Int × Int)) (w : World), X x true false w → Calls Tryz.prog 60 #[.pointer (some ⟨d, 0, none⟩), .int .i64 now, .int .i64 x.1] w fun e w' => ∃ y : Int, e = .returned (.int .i64 y) ∧ X (x.1, y) true true w') (t0 : Array Value) (hz : t0.size = 201) (ht0 : t0[0]? = some (.pointer (some ⟨p, 0, none⟩))) {id : Nat} {Q : Exit → Act → World → Prop} {w : World} (x0 : (Int × Int)) (start : X x0 false false w.drew) (fin : ∀ x w', X x true true w' → Q .normal ⟨puts ((lay_tik9 p d now) x) t0, []⟩ w') : (Code.region id ops true).wp Tryz.prog Q ⟨t0, []⟩ w := by
  subst ho
  have F : Flows (X := (Int × Int)) R_tik9 (lay_tik9 p d now) [(0, .pointer (some ⟨p, 0, none⟩))] t0 9 := Flows.of (by kernel_rfl) hz (fun _ => by kernel_rfl) (.cons ht0 .nil)
  refine wp_flow (Wd := (fun x L => X x (L 7) (L 8))) F rfl x0 start (fun i hi => ?_) (fun x L w' hl hw => fin x w' ?_)
  · rw [tik9_size] at hi
    match i, hi with
    | 0, _ => exact stepP F rfl (fun _ => rfl) (fun _ _ => by kernel_rfl) (fun _ => rfl) (fun _ _ _ h => h)
    | 1, _ => exact stepC 35 (fun _ => #[.pointer (some ⟨p, 0, none⟩)]) F rfl (fun _ => rfl) (fun _ => rfl) (fun _ _ => by kernel_rfl) (fun x L w z1 z2 z3 h => by
      have h : X x (L 7) (L 8) w := h
      have e7 := fls z3 9 7 (by kernel_rfl)
      have e8 := fls z3 9 8 (by kernel_rfl)
      simp only [e7, e8] at h ⊢
      exact C1 x  w h)
    | 2, _ => exact stepP F rfl (fun _ => rfl) (fun _ _ => by kernel_rfl) (fun _ => rfl) (fun _ _ _ h => h)
    | 3, _ => exact stepP F rfl (fun _ => rfl) (fun _ _ => by kernel_rfl) (fun _ => rfl) (fun _ _ _ h => h)
    | 4, _ => exact stepP F rfl (fun _ => rfl) (fun _ _ => by kernel_rfl) (fun _ => rfl) (fun _ _ _ h => h)
    | 5, _ => exact stepL (fun _ => ⟨p, 20, none⟩) F rfl (fun _ => rfl) (fun _ => rfl) rfl (fun _ => rfl) Tryz.underlying2 rfl (fun x L w z1 z2 z3 h => by
      have h : X x (L 7) (L 8) w := h
      have e8 := fls z3 9 8 (by kernel_rfl)
      simp only [e8] at h ⊢
      exact ⟨M5 x _ w h, h⟩)
    | 6, _ => exact stepP F rfl (fun _ => rfl) (fun _ _ => by kernel_rfl) (fun _ => rfl) (fun _ _ _ h => h)
    | 7, _ => exact stepY 61 (fun _ => #[.pointer (some ⟨p, 0, none⟩)]) F rfl (fun _ => rfl) (fun _ => rfl) (fun _ _ => by kernel_rfl) (fun x L w z1 z2 z3 h => by
      have h : X x (L 7) (L 8) w := h
      have e7 : L 7 = false := z1
      have e8 := fls z3 9 8 (by kernel_rfl)
      simp only [e7, e8] at h ⊢
      exact (C7 x  w h).mono fun e w' ⟨y, he, hx⟩ => ⟨(y, x.2), he, but_all (D := [7, 8]) (desc 9 z1 z3 (by kernel_rfl)) rfl, hx⟩)
    | 8, _ => exact stepY 60 (fun x => #[.pointer (some ⟨d, 0, none⟩), .int .i64 now, .int .i64 x.1]) F rfl (fun _ => rfl) (fun _ => rfl) (fun _ _ => by kernel_rfl) (fun x L w z1 z2 z3 h => by
      have h : X x (L 7) (L 8) w := h
      have e7 := z2 7 (by kernel_rfl)
      have e8 : L 8 = false := z1
      simp only [e7, e8] at h ⊢
      exact (C8 x  w h).mono fun e w' ⟨y, he, hx⟩ => ⟨(x.1, y), he, but_all (D := [8]) (desc 9 z1 z3 (by kernel_rfl)) rfl, hx⟩)
    | n + 9, h => exact absurd h (by omega)
  · have hw : X x (L 7) (L 8) w' := hw
    rw [hl 7 (by rw [tik9_size]; omega), hl 8 (by rw [tik9_size]; omega)] at hw
    exact hw
noncomputable def R_tik11 : Array Oper := reg Tryz.f31 11
theorem tik11_size : R_tik11.size = 15 := by kernel_rfl
noncomputable def lay_tik11 (p : Nat) (d : Nat) (now : Int) (rdy : Int) (x : (Int × Int × Int × Bool × Int × Int)) : Lay := [(some 72, .pointer (some ⟨p, 0, none⟩)),
  (some 73, .pointer (some ⟨p, 0, none⟩)),
  (some 74, .pointer (some ⟨d, 0, none⟩)),
  (some 75, .pointer (some ⟨p, 0, none⟩)),
  (some 76, .pointer (some ⟨p, 0, none⟩)),
  (some 77, .pointer (some ⟨p, 20, none⟩)),
  (some 78, .int .i64 now),
  (some 79, .int .i64 rdy),
  (some 80, .tuple #[.agg #[.int .i64 now, .int .i64 x.1, .int .i64 x.2.1, .int .i64 x.2.2.1, .bool x.2.2.2.1, .int .i64 x.2.2.2.2.1], .int .i64 x.2.2.2.2.2]),
  (some 71, .tuple #[.agg #[.int .i64 now, .int .i64 x.1, .int .i64 x.2.1, .int .i64 x.2.2.1, .bool x.2.2.2.1, .int .i64 x.2.2.2.2.1], .int .i64 x.2.2.2.2.2]),
  (some 81, .agg #[.int .i64 now, .int .i64 x.1, .int .i64 x.2.1, .int .i64 x.2.2.1, .bool x.2.2.2.1, .int .i64 x.2.2.2.2.1]),
  (some 82, .int .i64 x.2.2.2.2.2),
  (some 83, .pointer (some ⟨p, 0, none⟩)),
  (some 84, .pointer (some ⟨p, 23, none⟩)),
  (none, undef)]
set_option maxRecDepth 1000000 in
theorem tik11_at {ops : Array Oper} (ho : ops = R_tik11) (p : Nat) (d : Nat) (now : Int) (rdy : Int) (X : ((Int × Int × Int × Bool × Int × Int)) → Bool → Bool → World → Prop)  (M6 : ∀ (x : ((Int × Int × Int × Bool × Int × Int))) (w : World), X x false false w → w.cell? ⟨p, 20, none⟩ = some (.int .i64 now)) (C2 : ∀ (x : ((Int × Int × Int × Bool × Int × Int))) (w : World), X x false false w → Calls Tryz.prog 35 #[.pointer (some ⟨p, 0, none⟩)] w fun e w' => e = .returned (.pointer (some ⟨d, 0, none⟩)) ∧ X x false false w') (C8 : ∀ (x : ((Int × Int × Int × Bool × Int × Int))) (w : World), X x false false w → Calls Tryz.prog 63 #[.pointer (some ⟨d, 0, none⟩), .int .i64 now, .int .i64 rdy] w fun e w' => ∃ y : (Int × Int × Int × Bool × Int × Int), e = .returned (.tuple #[.agg #[.int .i64 now, .int .i64 y.1, .int .i64 y.2.1, .int .i64 y.2.2.1, .bool y.2.2.2.1, .int .i64 y.2.2.2.2.1], .int .i64 y.2.2.2.2.2]) ∧ X y true false w') (S14 : ∀ (x : ((Int × Int × Int × Bool × Int × Int))) (w : World), X x true false w → w.there p 23 6 ∧ X x true true (w.setCells p 23 [.int .i64 now, .int .i64 x.1, .int .i64 x.2.1, .int .i64 x.2.2.1, .bool x.2.2.2.1, .int .i64 x.2.2.2.2.1])) (t0 : Array Value) (hz : t0.size = 201) (ht0 : t0[0]? = some (.pointer (some ⟨p, 0, none⟩))) (ht4 : t0[4]? = some (.int .i64 rdy)) {id : Nat} {Q : Exit → Act → World → Prop} {w : World} (x0 : ((Int × Int × Int × Bool × Int × Int))) (start : X x0 false false w.drew) (fin : ∀ x w', X x true true w' → Q .normal ⟨puts ((lay_tik11 p d now rdy) x) t0, []⟩ w') : (Code.region id ops true).wp Tryz.prog Q ⟨t0, []⟩ w := by
  subst ho
  have F : Flows (X := ((Int × Int × Int × Bool × Int × Int))) R_tik11 (lay_tik11 p d now rdy) [(0, .pointer (some ⟨p, 0, none⟩)), (4, .int .i64 rdy)] t0 9 := Flows.of (by kernel_rfl) hz (fun _ => by kernel_rfl) (.cons ht0 (.cons ht4 .nil))
  refine wp_flow (Wd := (fun x L => X x (L 8) (L 14))) F rfl x0 start (fun i hi => ?_) (fun x L w' hl hw => fin x w' ?_)
  · rw [tik11_size] at hi
    match i, hi with
    | 0, _ => exact stepP F rfl (fun _ => rfl) (fun _ _ => by kernel_rfl) (fun _ => rfl) (fun _ _ _ h => h)
    | 1, _ => exact stepP F rfl (fun _ => rfl) (fun _ _ => by kernel_rfl) (fun _ => rfl) (fun _ _ _ h => h)
    | 2, _ => exact stepC 35 (fun _ => #[.pointer (some ⟨p, 0, none⟩)]) F rfl (fun _ => rfl) (fun _ => rfl) (fun _ _ => by kernel_rfl) (fun x L w z1 z2 z3 h => by
      have h : X x (L 8) (L 14) w := h
      have e8 := fls z3 9 8 (by kernel_rfl)
      have e14 := fls z3 9 14 (by kernel_rfl)
      simp only [e8, e14] at h ⊢
      exact C2 x  w h)
    | 3, _ => exact stepP F rfl (fun _ => rfl) (fun _ _ => by kernel_rfl) (fun _ => rfl) (fun _ _ _ h => h)
    | 4, _ => exact stepP F rfl (fun _ => rfl) (fun _ _ => by kernel_rfl) (fun _ => rfl) (fun _ _ _ h => h)
    | 5, _ => exact stepP F rfl (fun _ => rfl) (fun _ _ => by kernel_rfl) (fun _ => rfl) (fun _ _ _ h => h)
    | 6, _ => exact stepL (fun _ => ⟨p, 20, none⟩) F rfl (fun _ => rfl) (fun _ => rfl) rfl (fun _ => rfl) Tryz.underlying2 rfl (fun x L w z1 z2 z3 h => by
      have h : X x (L 8) (L 14) w := h
      have e8 := fls z3 9 8 (by kernel_rfl)
      have e14 := fls z3 9 14 (by kernel_rfl)
      simp only [e8, e14] at h ⊢
      exact ⟨M6 x  w h, h⟩)
    | 7, _ => exact stepP F rfl (fun _ => rfl) (fun _ _ => by kernel_rfl) (fun _ => rfl) (fun _ _ _ h => h)
    | 8, _ => exact stepY 63 (fun _ => #[.pointer (some ⟨d, 0, none⟩), .int .i64 now, .int .i64 rdy]) F rfl (fun _ => rfl) (fun _ => rfl) (fun _ _ => by kernel_rfl) (fun x L w z1 z2 z3 h => by
      have h : X x (L 8) (L 14) w := h
      have e8 : L 8 = false := z1
      have e14 := fls z3 9 14 (by kernel_rfl)
      simp only [e8, e14] at h ⊢
      exact (C8 x  w h).mono fun e w' ⟨y, he, hx⟩ => ⟨y, he, but_all (D := [8, 9, 10, 11, 14]) (desc 9 z1 z3 (by kernel_rfl)) rfl, hx⟩)
    | 9, _ => exact stepP F rfl (fun _ => rfl) (fun _ _ => by kernel_rfl) (fun _ => rfl) (fun _ _ _ h => h)
    | 10, _ => exact stepP F rfl (fun _ => rfl) (fun _ _ => by kernel_rfl) (fun _ => rfl) (fun _ _ _ h => h)
    | 11, _ => exact stepP F rfl (fun _ => rfl) (fun _ _ => by kernel_rfl) (fun _ => rfl) (fun _ _ _ h => h)
    | 12, _ => exact stepP F rfl (fun _ => rfl) (fun _ _ => by kernel_rfl) (fun _ => rfl) (fun _ _ _ h => h)
    | 13, _ => exact stepP F rfl (fun _ => rfl) (fun _ _ => by kernel_rfl) (fun _ => rfl) (fun _ _ _ h => h)
    | 14, _ => exact stepRS (fun _ => (p, 23)) F rfl (fun _ => rfl) (fun _ => rfl) rfl rfl (fun _ => rfl) (fun _ => rfl) (fun _ => by kernel_rfl) (fun _ => by kernel_rfl) (fun x L w z1 z2 z3 h => by
      have h : X x (L 8) (L 14) w := h
      have e8 := z2 8 (by kernel_rfl)
      have e14 : L 14 = false := z1
      simp only [e8, e14] at h ⊢
      exact S14 x  w h)
    | n + 15, h => exact absurd h (by omega)
  · have hw : X x (L 8) (L 14) w' := hw
    rw [hl 8 (by rw [tik11_size]; omega), hl 14 (by rw [tik11_size]; omega)] at hw
    exact hw
noncomputable def R_tik12 : Array Oper := reg Tryz.f31 12
theorem tik12_size : R_tik12.size = 15 := by kernel_rfl
noncomputable def lay_tik12 (cs : Array Value) (p : Nat) (rdy : Int) (ex : Int) (px : Bool) (_ : Unit) : Lay := [(some 85, .pointer (some ⟨p, 0, none⟩)),
  (some 86, .pointer (some ⟨p, 0, none⟩)),
  (some 87, .pointer (some ⟨p, 0, none⟩)),
  (some 88, .pointer (some ⟨p, 0, none⟩)),
  (some 89, .agg cs),
  (some 90, .int .i64 rdy),
  (some 91, .pointer (some ⟨p, 0, none⟩)),
  (some 92, .pointer (some ⟨p, 0, none⟩)),
  (some 93, .pointer (some ⟨p, 23, none⟩)),
  (some 94, .pointer (some ⟨p, 28, none⟩)),
  (some 95, .int .i64 ex),
  (some 96, .bool px),
  (some 97, .pointer (some ⟨p, 0, none⟩)),
  (some 98, .pointer (some ⟨p, 30, none⟩)),
  (none, undef)]
set_option maxRecDepth 1000000 in
theorem tik12_at {ops : Array Oper} (ho : ops = R_tik12) (cs : Array Value) (p : Nat) (rdy : Int) (ex : Int) (px : Bool) (X : (Unit) → Bool → World → Prop)  (M4 : ∀ (x : (Unit)) (w : World), X x false w → rowOf w p (0) 20 = some (.agg cs)) (M10 : ∀ (x : (Unit)) (w : World), X x false w → w.cell? ⟨p, 28, none⟩ = some (.int .i64 ex)) (C11 : ∀ (x : (Unit)) (w : World), X x false w → Calls Tryz.prog 24 #[.agg cs, .int .i64 rdy, .int .i64 ex] w fun e w' => e = .returned (.bool px) ∧ X x false w') (S14 : ∀ (x : (Unit)) (w : World), X x false w → ∃ u0, w.cell? ⟨p, 30, none⟩ = some u0 ∧ w.frozen? ⟨p, 30, none⟩ = false ∧ X x true (w.setCell ⟨p, 30, none⟩ (.bool px))) (t0 : Array Value) (hz : t0.size = 201) (ht0 : t0[0]? = some (.pointer (some ⟨p, 0, none⟩))) (ht4 : t0[4]? = some (.int .i64 rdy)) {id : Nat} {Q : Exit → Act → World → Prop} {w : World} (x0 : (Unit)) (start : X x0 false w.drew) (fin : ∀ x w', X x true w' → Q .normal ⟨puts ((lay_tik12 cs p rdy ex px) x) t0, []⟩ w') : (Code.region id ops true).wp Tryz.prog Q ⟨t0, []⟩ w := by
  subst ho
  have F : Flows (X := (Unit)) R_tik12 (lay_tik12 cs p rdy ex px) [(0, .pointer (some ⟨p, 0, none⟩)), (4, .int .i64 rdy)] t0 9 := Flows.of (by kernel_rfl) hz (fun _ => by kernel_rfl) (.cons ht0 (.cons ht4 .nil))
  refine wp_flow (Wd := (fun x L => X x (L 14))) F rfl x0 start (fun i hi => ?_) (fun x L w' hl hw => fin x w' ?_)
  · rw [tik12_size] at hi
    match i, hi with
    | 0, _ => exact stepP F rfl (fun _ => rfl) (fun _ _ => by kernel_rfl) (fun _ => rfl) (fun _ _ _ h => h)
    | 1, _ => exact stepP F rfl (fun _ => rfl) (fun _ _ => by kernel_rfl) (fun _ => rfl) (fun _ _ _ h => h)
    | 2, _ => exact stepP F rfl (fun _ => rfl) (fun _ _ => by kernel_rfl) (fun _ => rfl) (fun _ _ _ h => h)
    | 3, _ => exact stepP F rfl (fun _ => rfl) (fun _ _ => by kernel_rfl) (fun _ => rfl) (fun _ _ _ h => h)
    | 4, _ => exact stepR24 (fun _ => (p, 0)) F rfl (fun _ => rfl) (fun _ => rfl) rfl (fun _ => rfl) (fun x L w z1 z2 z3 h => by
      have h : X x (L 14) w := h
      have e14 := fls z3 9 14 (by kernel_rfl)
      simp only [e14] at h ⊢
      exact ⟨M4 x  w h, h⟩)
    | 5, _ => exact stepP F rfl (fun _ => rfl) (fun _ _ => by kernel_rfl) (fun _ => rfl) (fun _ _ _ h => h)
    | 6, _ => exact stepP F rfl (fun _ => rfl) (fun _ _ => by kernel_rfl) (fun _ => rfl) (fun _ _ _ h => h)
    | 7, _ => exact stepP F rfl (fun _ => rfl) (fun _ _ => by kernel_rfl) (fun _ => rfl) (fun _ _ _ h => h)
    | 8, _ => exact stepP F rfl (fun _ => rfl) (fun _ _ => by kernel_rfl) (fun _ => rfl) (fun _ _ _ h => h)
    | 9, _ => exact stepP F rfl (fun _ => rfl) (fun _ _ => by kernel_rfl) (fun _ => rfl) (fun _ _ _ h => h)
    | 10, _ => exact stepL (fun _ => ⟨p, 28, none⟩) F rfl (fun _ => rfl) (fun _ => rfl) rfl (fun _ => rfl) Tryz.underlying2 rfl (fun x L w z1 z2 z3 h => by
      have h : X x (L 14) w := h
      have e14 := fls z3 9 14 (by kernel_rfl)
      simp only [e14] at h ⊢
      exact ⟨M10 x  w h, h⟩)
    | 11, _ => exact stepC 24 (fun _ => #[.agg cs, .int .i64 rdy, .int .i64 ex]) F rfl (fun _ => rfl) (fun _ => rfl) (fun _ _ => by kernel_rfl) (fun x L w z1 z2 z3 h => by
      have h : X x (L 14) w := h
      have e14 := fls z3 9 14 (by kernel_rfl)
      simp only [e14] at h ⊢
      exact C11 x  w h)
    | 12, _ => exact stepP F rfl (fun _ => rfl) (fun _ _ => by kernel_rfl) (fun _ => rfl) (fun _ _ _ h => h)
    | 13, _ => exact stepP F rfl (fun _ => rfl) (fun _ _ => by kernel_rfl) (fun _ => rfl) (fun _ _ _ h => h)
    | 14, _ => exact stepS (fun _ => (p, 30)) F rfl (fun _ => rfl) (fun _ => rfl) rfl rfl (fun _ => rfl) (fun _ => rfl) (by kernel_rfl) (fun _ => rfl) (fun x L w z1 z2 z3 h => by
      have h : X x (L 14) w := h
      have e14 : L 14 = false := z1
      simp only [e14] at h ⊢
      obtain ⟨u0, c0, g0, hx⟩ := S14 x  w h
      exact ⟨⟨u0, c0⟩, g0, hx⟩)
    | n + 15, h => exact absurd h (by omega)
  · have hw : X x (L 14) w' := hw
    rw [hl 14 (by rw [tik12_size]; omega)] at hw
    exact hw
noncomputable def R_tik13 : Array Oper := reg Tryz.f31 13
theorem tik13_size : R_tik13.size = 17 := by kernel_rfl
noncomputable def lay_tik13 (p : Nat) (now : Int) (zs : Int) (px : Bool) (zt : Int) (_ : Unit) : Lay := [(some 99, .pointer (some ⟨p, 0, none⟩)),
  (some 100, .pointer (some ⟨p, 0, none⟩)),
  (some 101, .pointer (some ⟨p, 0, none⟩)),
  (some 102, .pointer (some ⟨p, 31, none⟩)),
  (some 103, .agg #[.int .i64 zs]),
  (some 104, .pointer (some ⟨p, 0, none⟩)),
  (some 105, .pointer (some ⟨p, 0, none⟩)),
  (some 106, .pointer (some ⟨p, 20, none⟩)),
  (some 107, .int .i64 now),
  (some 108, .pointer (some ⟨p, 0, none⟩)),
  (some 109, .pointer (some ⟨p, 0, none⟩)),
  (some 110, .pointer (some ⟨p, 30, none⟩)),
  (some 111, .bool px),
  (some 112, .agg #[.int .i64 zt]),
  (some 113, .pointer (some ⟨p, 0, none⟩)),
  (some 114, .pointer (some ⟨p, 31, none⟩)),
  (none, undef)]
set_option maxRecDepth 1000000 in
theorem tik13_at {ops : Array Oper} (ho : ops = R_tik13) (p : Nat) (now : Int) (zs : Int) (px : Bool) (zt : Int) (X : (Unit) → Bool → World → Prop)  (M4 : ∀ (x : (Unit)) (w : World), X x false w → w.cell? ⟨p, 31, none⟩ = some (.int .i64 zs)) (M8 : ∀ (x : (Unit)) (w : World), X x false w → w.cell? ⟨p, 20, none⟩ = some (.int .i64 now)) (M12 : ∀ (x : (Unit)) (w : World), X x false w → w.cell? ⟨p, 30, none⟩ = some (.bool px)) (C13 : ∀ (x : (Unit)) (w : World), X x false w → Calls Tryz.prog 64 #[.agg #[.int .i64 zs], .int .i64 now, .bool px] w fun e w' => e = .returned (.agg #[.int .i64 zt]) ∧ X x false w') (S16 : ∀ (x : (Unit)) (w : World), X x false w → w.there p 31 1 ∧ X x true (w.setCells p 31 [.int .i64 zt])) (t0 : Array Value) (hz : t0.size = 201) (ht0 : t0[0]? = some (.pointer (some ⟨p, 0, none⟩))) {id : Nat} {Q : Exit → Act → World → Prop} {w : World} (x0 : (Unit)) (start : X x0 false w.drew) (fin : ∀ x w', X x true w' → Q .normal ⟨puts ((lay_tik13 p now zs px zt) x) t0, []⟩ w') : (Code.region id ops true).wp Tryz.prog Q ⟨t0, []⟩ w := by
  subst ho
  have F : Flows (X := (Unit)) R_tik13 (lay_tik13 p now zs px zt) [(0, .pointer (some ⟨p, 0, none⟩))] t0 9 := Flows.of (by kernel_rfl) hz (fun _ => by kernel_rfl) (.cons ht0 .nil)
  refine wp_flow (Wd := (fun x L => X x (L 16))) F rfl x0 start (fun i hi => ?_) (fun x L w' hl hw => fin x w' ?_)
  · rw [tik13_size] at hi
    match i, hi with
    | 0, _ => exact stepP F rfl (fun _ => rfl) (fun _ _ => by kernel_rfl) (fun _ => rfl) (fun _ _ _ h => h)
    | 1, _ => exact stepP F rfl (fun _ => rfl) (fun _ _ => by kernel_rfl) (fun _ => rfl) (fun _ _ _ h => h)
    | 2, _ => exact stepP F rfl (fun _ => rfl) (fun _ _ => by kernel_rfl) (fun _ => rfl) (fun _ _ _ h => h)
    | 3, _ => exact stepP F rfl (fun _ => rfl) (fun _ _ => by kernel_rfl) (fun _ => rfl) (fun _ _ _ h => h)
    | 4, _ => exact stepW (fun _ => (p, 31)) F rfl (fun _ => rfl) (fun _ => rfl) rfl (fun _ => rfl) Tryz.underlying60 rfl (fun _ => by kernel_rfl) (fun x L w z1 z2 z3 h => by
      have h : X x (L 16) w := h
      have e16 := fls z3 9 16 (by kernel_rfl)
      simp only [e16] at h ⊢
      refine ⟨fun j hj => ?_, h⟩
      obtain rfl : j = 0 := by simpa using hj
      exact M4 x  w h)
    | 5, _ => exact stepP F rfl (fun _ => rfl) (fun _ _ => by kernel_rfl) (fun _ => rfl) (fun _ _ _ h => h)
    | 6, _ => exact stepP F rfl (fun _ => rfl) (fun _ _ => by kernel_rfl) (fun _ => rfl) (fun _ _ _ h => h)
    | 7, _ => exact stepP F rfl (fun _ => rfl) (fun _ _ => by kernel_rfl) (fun _ => rfl) (fun _ _ _ h => h)
    | 8, _ => exact stepL (fun _ => ⟨p, 20, none⟩) F rfl (fun _ => rfl) (fun _ => rfl) rfl (fun _ => rfl) Tryz.underlying2 rfl (fun x L w z1 z2 z3 h => by
      have h : X x (L 16) w := h
      have e16 := fls z3 9 16 (by kernel_rfl)
      simp only [e16] at h ⊢
      exact ⟨M8 x  w h, h⟩)
    | 9, _ => exact stepP F rfl (fun _ => rfl) (fun _ _ => by kernel_rfl) (fun _ => rfl) (fun _ _ _ h => h)
    | 10, _ => exact stepP F rfl (fun _ => rfl) (fun _ _ => by kernel_rfl) (fun _ => rfl) (fun _ _ _ h => h)
    | 11, _ => exact stepP F rfl (fun _ => rfl) (fun _ _ => by kernel_rfl) (fun _ => rfl) (fun _ _ _ h => h)
    | 12, _ => exact stepL (fun _ => ⟨p, 30, none⟩) F rfl (fun _ => rfl) (fun _ => rfl) rfl (fun _ => rfl) Tryz.underlying4 rfl (fun x L w z1 z2 z3 h => by
      have h : X x (L 16) w := h
      have e16 := fls z3 9 16 (by kernel_rfl)
      simp only [e16] at h ⊢
      exact ⟨M12 x  w h, h⟩)
    | 13, _ => exact stepC 64 (fun _ => #[.agg #[.int .i64 zs], .int .i64 now, .bool px]) F rfl (fun _ => rfl) (fun _ => rfl) (fun _ _ => by kernel_rfl) (fun x L w z1 z2 z3 h => by
      have h : X x (L 16) w := h
      have e16 := fls z3 9 16 (by kernel_rfl)
      simp only [e16] at h ⊢
      exact C13 x  w h)
    | 14, _ => exact stepP F rfl (fun _ => rfl) (fun _ _ => by kernel_rfl) (fun _ => rfl) (fun _ _ _ h => h)
    | 15, _ => exact stepP F rfl (fun _ => rfl) (fun _ _ => by kernel_rfl) (fun _ => rfl) (fun _ _ _ h => h)
    | 16, _ => exact stepRS (fun _ => (p, 31)) F rfl (fun _ => rfl) (fun _ => rfl) rfl rfl (fun _ => rfl) (fun _ => rfl) (fun _ => by kernel_rfl) (fun _ => by kernel_rfl) (fun x L w z1 z2 z3 h => by
      have h : X x (L 16) w := h
      have e16 : L 16 = false := z1
      simp only [e16] at h ⊢
      exact S16 x  w h)
    | n + 17, h => exact absurd h (by omega)
  · have hw : X x (L 16) w' := hw
    rw [hl 16 (by rw [tik13_size]; omega)] at hw
    exact hw
end Go.Proofs.YtdgphoemjeakaaaGreatDoor.Y
