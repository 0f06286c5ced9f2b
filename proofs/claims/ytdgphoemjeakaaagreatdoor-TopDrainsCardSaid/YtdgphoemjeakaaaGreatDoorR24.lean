/- The whole service: regions that draw their order. The whole service: regions that draw their order. The whole service: regions that draw their order. The whole service: regions that draw their order. -/
import Derived.Test.YtdgphoemjeakaaaGreatDoorR09
import Derived.Test.YtdgphoemjeakaaaGreatDoorR10
namespace Go.Proofs.YtdgphoemjeakaaaGreatDoor.Y
open Go.RowKit K P W Rg
theorem info38 : (Tryz.prog.info? 38).map (fun i => (i.zero, i.size, i.bytes)) = some (some (.agg #[.int .i64 0, .int .i64 0, .bool false, .bool false, .slice none 0 0, .int .i64 0, .int .i64 0, .int .i64 0, .int .i64 0, .int .i64 0, .int .i64 0, .int .i64 0, .int .i64 0, .int .i64 0, .bool false]), 15, 128) := by kernel_rfl
noncomputable def R_tik14 : Array Oper := reg Tryz.f31 14
theorem tik14_size : R_tik14.size = 37 := by kernel_rfl
noncomputable def lay_tik14 (cs : Array Value) (p : Nat) (l : Nat) (q : Nat) (now : Int) (zs : Int) (wn : Int) (st : Int) (ct : Int) (nq : Nat) (nf : Nat) (wt : Int) (x : (Option Addr × Nat) × (Option Addr × Nat)) : Lay := [(some 115, .pointer (some ⟨p, 0, none⟩)),
  (some 116, .pointer (some ⟨p, 0, none⟩)),
  (some 117, .pointer (some ⟨p, 0, none⟩)),
  (some 118, .pointer (some ⟨p, 0, none⟩)),
  (some 119, .agg cs),
  (some 120, .pointer (some ⟨p, 0, none⟩)),
  (some 121, .pointer (some ⟨p, 0, none⟩)),
  (some 122, .pointer (some ⟨p, 31, none⟩)),
  (some 123, .agg #[.int .i64 zs]),
  (some 124, .pointer (some ⟨p, 0, none⟩)),
  (some 125, .pointer (some ⟨p, 0, none⟩)),
  (some 126, .pointer (some ⟨p, 20, none⟩)),
  (some 127, .int .i64 now),
  (some 128, .pointer (some ⟨p, 0, none⟩)),
  (some 129, .pointer (some ⟨p, 0, none⟩)),
  (some 130, .pointer (some ⟨p, 23, none⟩)),
  (some 131, .pointer (some ⟨p, 26, none⟩)),
  (some 132, .int .i64 wn),
  (some 133, .pointer (some ⟨p, 0, none⟩)),
  (some 134, .pointer (some ⟨l, 0, none⟩)),
  (some 135, .int .i64 ct),
  (some 136, .pointer (some ⟨p, 0, none⟩)),
  (some 137, .pointer (some ⟨p, 0, none⟩)),
  (some 138, .pointer (some ⟨p, 23, none⟩)),
  (some 139, .pointer (some ⟨p, 24, none⟩)),
  (some 140, .int .i64 st),
  (some 141, .pointer (some ⟨p, 0, none⟩)),
  (some 142, .pointer (some ⟨q, 0, none⟩)),
  (some 143, .slice (x.1.1) (nq) (x.1.2)),
  (some 144, .int .i64 (nq)),
  (some 145, .pointer (some ⟨p, 0, none⟩)),
  (some 146, .slice (x.2.1) (nf) (x.2.2)),
  (some 147, .int .i64 (nf)),
  (some 148, .int .i64 wt),
  (some 149, .pointer (some ⟨p, 0, none⟩)),
  (some 150, .pointer (some ⟨p, 29, none⟩)),
  (none, undef)]
set_option maxRecDepth 1000000 in
theorem tik14_at {ops : Array Oper} (ho : ops = R_tik14) (cs : Array Value) (p : Nat) (l : Nat) (q : Nat) (now : Int) (zs : Int) (wn : Int) (st : Int) (ct : Int) (nq : Nat) (nf : Nat) (wt : Int) (X : ((Option Addr × Nat) × (Option Addr × Nat)) → Bool → World → Prop)  (M4 : ∀ (x : ((Option Addr × Nat) × (Option Addr × Nat))) (w : World), X x false w → rowOf w p (0) 20 = some (.agg cs)) (M8 : ∀ (x : ((Option Addr × Nat) × (Option Addr × Nat))) (w : World), X x false w → w.cell? ⟨p, 31, none⟩ = some (.int .i64 zs)) (M12 : ∀ (x : ((Option Addr × Nat) × (Option Addr × Nat))) (w : World), X x false w → w.cell? ⟨p, 20, none⟩ = some (.int .i64 now)) (M17 : ∀ (x : ((Option Addr × Nat) × (Option Addr × Nat))) (w : World), X x false w → w.cell? ⟨p, 26, none⟩ = some (.int .i64 wn)) (M25 : ∀ (x : ((Option Addr × Nat) × (Option Addr × Nat))) (w : World), X x false w → w.cell? ⟨p, 24, none⟩ = some (.int .i64 st)) (C19 : ∀ (x : ((Option Addr × Nat) × (Option Addr × Nat))) (w : World), X x false w → Calls Tryz.prog 21 #[.pointer (some ⟨p, 0, none⟩)] w fun e w' => e = .returned (.pointer (some ⟨l, 0, none⟩)) ∧ X x false w') (C20 : ∀ (x : ((Option Addr × Nat) × (Option Addr × Nat))) (w : World), X x false w → Calls Tryz.prog 43 #[.pointer (some ⟨l, 0, none⟩)] w fun e w' => e = .returned (.int .i64 ct) ∧ X x false w') (C27 : ∀ (x : ((Option Addr × Nat) × (Option Addr × Nat))) (w : World), X x false w → Calls Tryz.prog 33 #[.pointer (some ⟨p, 0, none⟩)] w fun e w' => e = .returned (.pointer (some ⟨q, 0, none⟩)) ∧ X x false w') (C28 : ∀ (x : ((Option Addr × Nat) × (Option Addr × Nat))) (w : World), X x false w → Calls Tryz.prog 34 #[.pointer (some ⟨q, 0, none⟩)] w fun e w' => ∃ y : (Option Addr × Nat), e = .returned (.slice (y.1) (nq) (y.2)) ∧ X (y, x.2) false w') (C31 : ∀ (x : ((Option Addr × Nat) × (Option Addr × Nat))) (w : World), X x false w → Calls Tryz.prog 52 #[.pointer (some ⟨p, 0, none⟩)] w fun e w' => ∃ y : (Option Addr × Nat), e = .returned (.slice (y.1) (nf) (y.2)) ∧ X (x.1, y) false w') (C33 : ∀ (x : ((Option Addr × Nat) × (Option Addr × Nat))) (w : World), X x false w → Calls Tryz.prog 65 #[.agg cs, .agg #[.int .i64 zs], .int .i64 now, .int .i64 wn, .int .i64 ct, .int .i64 st, .int .i64 (nq), .int .i64 (nf)] w fun e w' => e = .returned (.int .i64 wt) ∧ X x false w') (S36 : ∀ (x : ((Option Addr × Nat) × (Option Addr × Nat))) (w : World), X x false w → ∃ u0, w.cell? ⟨p, 29, none⟩ = some u0 ∧ w.frozen? ⟨p, 29, none⟩ = false ∧ X x true (w.setCell ⟨p, 29, none⟩ (.int .i64 wt))) (t0 : Array Value) (hz : t0.size = 201) (ht0 : t0[0]? = some (.pointer (some ⟨p, 0, none⟩))) {id : Nat} {Q : Exit → Act → World → Prop} {w : World} (x0 : ((Option Addr × Nat) × (Option Addr × Nat))) (start : X x0 false w.drew) (fin : ∀ x w', X x true w' → Q .normal ⟨puts ((lay_tik14 cs p l q now zs wn st ct nq nf wt) x) t0, []⟩ w') : (Code.region id ops true).wp Tryz.prog Q ⟨t0, []⟩ w := by
  subst ho
  have F : Flows (X := ((Option Addr × Nat) × (Option Addr × Nat))) R_tik14 (lay_tik14 cs p l q now zs wn st ct nq nf wt) [(0, .pointer (some ⟨p, 0, none⟩))] t0 9 := Flows.of (by kernel_rfl) hz (fun _ => by kernel_rfl) (.cons ht0 .nil)
  refine wp_flow (Wd := (fun x L => X x (L 36))) F rfl x0 start (fun i hi => ?_) (fun x L w' hl hw => fin x w' ?_)
  · rw [tik14_size] at hi
    match i, hi with
    | 0, _ => exact stepP F rfl (fun _ => rfl) (fun _ _ => by kernel_rfl) (fun _ => rfl) (fun _ _ _ h => h)
    | 1, _ => exact stepP F rfl (fun _ => rfl) (fun _ _ => by kernel_rfl) (fun _ => rfl) (fun _ _ _ h => h)
    | 2, _ => exact stepP F rfl (fun _ => rfl) (fun _ _ => by kernel_rfl) (fun _ => rfl) (fun _ _ _ h => h)
    | 3, _ => exact stepP F rfl (fun _ => rfl) (fun _ _ => by kernel_rfl) (fun _ => rfl) (fun _ _ _ h => h)
    | 4, _ => exact stepR24 (fun _ => (p, 0)) F rfl (fun _ => rfl) (fun _ => rfl) rfl (fun _ => rfl) (fun x L w z1 z2 z3 h => by
      have h : X x (L 36) w := h
      have e36 := fls z3 9 36 (by kernel_rfl)
      simp only [e36] at h ⊢
      exact ⟨M4 x  w h, h⟩)
    | 5, _ => exact stepP F rfl (fun _ => rfl) (fun _ _ => by kernel_rfl) (fun _ => rfl) (fun _ _ _ h => h)
    | 6, _ => exact stepP F rfl (fun _ => rfl) (fun _ _ => by kernel_rfl) (fun _ => rfl) (fun _ _ _ h => h)
    | 7, _ => exact stepP F rfl (fun _ => rfl) (fun _ _ => by kernel_rfl) (fun _ => rfl) (fun _ _ _ h => h)
    | 8, _ => exact stepW (fun _ => (p, 31)) F rfl (fun _ => rfl) (fun _ => rfl) rfl (fun _ => rfl) Tryz.underlying60 rfl (fun _ => by kernel_rfl) (fun x L w z1 z2 z3 h => by
      have h : X x (L 36) w := h
      have e36 := fls z3 9 36 (by kernel_rfl)
      simp only [e36] at h ⊢
      refine ⟨fun j hj => ?_, h⟩
      obtain rfl : j = 0 := by simpa using hj
      exact M8 x  w h)
    | 9, _ => exact stepP F rfl (fun _ => rfl) (fun _ _ => by kernel_rfl) (fun _ => rfl) (fun _ _ _ h => h)
    | 10, _ => exact stepP F rfl (fun _ => rfl) (fun _ _ => by kernel_rfl) (fun _ => rfl) (fun _ _ _ h => h)
    | 11, _ => exact stepP F rfl (fun _ => rfl) (fun _ _ => by kernel_rfl) (fun _ => rfl) (fun _ _ _ h => h)
    | 12, _ => exact stepL (fun _ => ⟨p, 20, none⟩) F rfl (fun _ => rfl) (fun _ => rfl) rfl (fun _ => rfl) Tryz.underlying2 rfl (fun x L w z1 z2 z3 h => by
      have h : X x (L 36) w := h
      have e36 := fls z3 9 36 (by kernel_rfl)
      simp only [e36] at h ⊢
      exact ⟨M12 x  w h, h⟩)
    | 13, _ => exact stepP F rfl (fun _ => rfl) (fun _ _ => by kernel_rfl) (fun _ => rfl) (fun _ _ _ h => h)
    | 14, _ => exact stepP F rfl (fun _ => rfl) (fun _ _ => by kernel_rfl) (fun _ => rfl) (fun _ _ _ h => h)
    | 15, _ => exact stepP F rfl (fun _ => rfl) (fun _ _ => by kernel_rfl) (fun _ => rfl) (fun _ _ _ h => h)
    | 16, _ => exact stepP F rfl (fun _ => rfl) (fun _ _ => by kernel_rfl) (fun _ => rfl) (fun _ _ _ h => h)
    | 17, _ => exact stepL (fun _ => ⟨p, 26, none⟩) F rfl (fun _ => rfl) (fun _ => rfl) rfl (fun _ => rfl) Tryz.underlying3 rfl (fun x L w z1 z2 z3 h => by
      have h : X x (L 36) w := h
      have e36 := fls z3 9 36 (by kernel_rfl)
      simp only [e36] at h ⊢
      exact ⟨M17 x  w h, h⟩)
    | 18, _ => exact stepP F rfl (fun _ => rfl) (fun _ _ => by kernel_rfl) (fun _ => rfl) (fun _ _ _ h => h)
    | 19, _ => exact stepC 21 (fun _ => #[.pointer (some ⟨p, 0, none⟩)]) F rfl (fun _ => rfl) (fun _ => rfl) (fun _ _ => by kernel_rfl) (fun x L w z1 z2 z3 h => by
      have h : X x (L 36) w := h
      have e36 := fls z3 9 36 (by kernel_rfl)
      simp only [e36] at h ⊢
      exact C19 x  w h)
    | 20, _ => exact stepC 43 (fun _ => #[.pointer (some ⟨l, 0, none⟩)]) F rfl (fun _ => rfl) (fun _ => rfl) (fun _ _ => by kernel_rfl) (fun x L w z1 z2 z3 h => by
      have h : X x (L 36) w := h
      have e36 := fls z3 9 36 (by kernel_rfl)
      simp only [e36] at h ⊢
      exact C20 x  w h)
    | 21, _ => exact stepP F rfl (fun _ => rfl) (fun _ _ => by kernel_rfl) (fun _ => rfl) (fun _ _ _ h => h)
    | 22, _ => exact stepP F rfl (fun _ => rfl) (fun _ _ => by kernel_rfl) (fun _ => rfl) (fun _ _ _ h => h)
    | 23, _ => exact stepP F rfl (fun _ => rfl) (fun _ _ => by kernel_rfl) (fun _ => rfl) (fun _ _ _ h => h)
    | 24, _ => exact stepP F rfl (fun _ => rfl) (fun _ _ => by kernel_rfl) (fun _ => rfl) (fun _ _ _ h => h)
    | 25, _ => exact stepL (fun _ => ⟨p, 24, none⟩) F rfl (fun _ => rfl) (fun _ => rfl) rfl (fun _ => rfl) Tryz.underlying2 rfl (fun x L w z1 z2 z3 h => by
      have h : X x (L 36) w := h
      have e36 := fls z3 9 36 (by kernel_rfl)
      simp only [e36] at h ⊢
      exact ⟨M25 x  w h, h⟩)
    | 26, _ => exact stepP F rfl (fun _ => rfl) (fun _ _ => by kernel_rfl) (fun _ => rfl) (fun _ _ _ h => h)
    | 27, _ => exact stepC 33 (fun _ => #[.pointer (some ⟨p, 0, none⟩)]) F rfl (fun _ => rfl) (fun _ => rfl) (fun _ _ => by kernel_rfl) (fun x L w z1 z2 z3 h => by
      have h : X x (L 36) w := h
      have e36 := fls z3 9 36 (by kernel_rfl)
      simp only [e36] at h ⊢
      exact C27 x  w h)
    | 28, _ => exact stepY 34 (fun _ => #[.pointer (some ⟨q, 0, none⟩)]) F rfl (fun _ => rfl) (fun _ => rfl) (fun _ _ => by kernel_rfl) (fun x L w z1 z2 z3 h => by
      have h : X x (L 36) w := h
      have e36 := fls z3 9 36 (by kernel_rfl)
      simp only [e36] at h ⊢
      exact (C28 x  w h).mono fun e w' ⟨y, he, hx⟩ => ⟨(y, x.2), he, but_all (D := [28, 29, 33, 36]) (desc 9 z1 z3 (by kernel_rfl)) rfl, hx⟩)
    | 29, _ => exact stepP F rfl (fun _ => rfl) (fun _ _ => by kernel_rfl) (fun _ => rfl) (fun _ _ _ h => h)
    | 30, _ => exact stepP F rfl (fun _ => rfl) (fun _ _ => by kernel_rfl) (fun _ => rfl) (fun _ _ _ h => h)
    | 31, _ => exact stepY 52 (fun _ => #[.pointer (some ⟨p, 0, none⟩)]) F rfl (fun _ => rfl) (fun _ => rfl) (fun _ _ => by kernel_rfl) (fun x L w z1 z2 z3 h => by
      have h : X x (L 36) w := h
      have e36 := fls z3 9 36 (by kernel_rfl)
      simp only [e36] at h ⊢
      exact (C31 x  w h).mono fun e w' ⟨y, he, hx⟩ => ⟨(x.1, y), he, but_all (D := [31, 32, 33, 36]) (desc 9 z1 z3 (by kernel_rfl)) rfl, hx⟩)
    | 32, _ => exact stepP F rfl (fun _ => rfl) (fun _ _ => by kernel_rfl) (fun _ => rfl) (fun _ _ _ h => h)
    | 33, _ => exact stepC 65 (fun _ => #[.agg cs, .agg #[.int .i64 zs], .int .i64 now, .int .i64 wn, .int .i64 ct, .int .i64 st, .int .i64 (nq), .int .i64 (nf)]) F rfl (fun _ => rfl) (fun _ => rfl) (fun _ _ => by kernel_rfl) (fun x L w z1 z2 z3 h => by
      have h : X x (L 36) w := h
      have e36 := fls z3 9 36 (by kernel_rfl)
      simp only [e36] at h ⊢
      exact C33 x  w h)
    | 34, _ => exact stepP F rfl (fun _ => rfl) (fun _ _ => by kernel_rfl) (fun _ => rfl) (fun _ _ _ h => h)
    | 35, _ => exact stepP F rfl (fun _ => rfl) (fun _ _ => by kernel_rfl) (fun _ => rfl) (fun _ _ _ h => h)
    | 36, _ => exact stepS (fun _ => (p, 29)) F rfl (fun _ => rfl) (fun _ => rfl) rfl rfl (fun _ => rfl) (fun _ => rfl) (by kernel_rfl) (fun _ => rfl) (fun x L w z1 z2 z3 h => by
      have h : X x (L 36) w := h
      have e36 : L 36 = false := z1
      simp only [e36] at h ⊢
      obtain ⟨u0, c0, g0, hx⟩ := S36 x  w h
      exact ⟨⟨u0, c0⟩, g0, hx⟩)
    | n + 37, h => exact absurd h (by omega)
  · have hw : X x (L 36) w' := hw
    rw [hl 36 (by rw [tik14_size]; omega)] at hw
    exact hw
noncomputable def R_tik15 : Array Oper := reg Tryz.f31 15
theorem tik15_size : R_tik15.size = 11 := by kernel_rfl
noncomputable def lay_tik15 (cs : Array Value) (p : Nat) (wt : Int) (mo : Int) (nn : Int) (_ : Unit) : Lay := [(some 151, .pointer (some ⟨p, 0, none⟩)),
  (some 152, .pointer (some ⟨p, 0, none⟩)),
  (some 153, .pointer (some ⟨p, 29, none⟩)),
  (some 154, .int .i64 wt),
  (some 155, .pointer (some ⟨p, 0, none⟩)),
  (some 156, .pointer (some ⟨p, 0, none⟩)),
  (some 157, .pointer (some ⟨p, 0, none⟩)),
  (some 158, .agg cs),
  (some 159, .int .i64 mo),
  (some 160, .int .i64 nn),
  (some 5, .int .i64 nn)]
set_option maxRecDepth 1000000 in
theorem tik15_at {ops : Array Oper} (ho : ops = R_tik15) (cs : Array Value) (p : Nat) (wt : Int) (mo : Int) (nn : Int) (X : (Unit) → World → Prop) (hnn : (if mo < wt then mo else wt) = nn) (M3 : ∀ (x : (Unit)) (w : World), X x w → w.cell? ⟨p, 29, none⟩ = some (.int .i64 wt)) (M7 : ∀ (x : (Unit)) (w : World), X x w → rowOf w p (0) 20 = some (.agg cs)) (C8 : ∀ (x : (Unit)) (w : World), X x w → Calls Tryz.prog 66 #[.agg cs] w fun e w' => e = .returned (.int .i64 mo) ∧ X x w') (t0 : Array Value) (hz : t0.size = 201) (ht0 : t0[0]? = some (.pointer (some ⟨p, 0, none⟩))) {id : Nat} {Q : Exit → Act → World → Prop} {w : World} (x0 : (Unit)) (start : X x0  w.drew) (fin : ∀ x w', X x  w' → Q .normal ⟨puts ((lay_tik15 cs p wt mo nn) x) t0, []⟩ w') : (Code.region id ops true).wp Tryz.prog Q ⟨t0, []⟩ w := by
  subst ho
  have F : Flows (X := (Unit)) R_tik15 (lay_tik15 cs p wt mo nn) [(0, .pointer (some ⟨p, 0, none⟩))] t0 9 := Flows.of (by kernel_rfl) hz (fun _ => by kernel_rfl) (.cons ht0 .nil)
  refine wp_flow (Wd := (fun x _ => X x)) F rfl x0 start (fun i hi => ?_) (fun x L w' hl hw => fin x w' ?_)
  · rw [tik15_size] at hi
    match i, hi with
    | 0, _ => exact stepP F rfl (fun _ => rfl) (fun _ _ => by kernel_rfl) (fun _ => rfl) (fun _ _ _ h => h)
    | 1, _ => exact stepP F rfl (fun _ => rfl) (fun _ _ => by kernel_rfl) (fun _ => rfl) (fun _ _ _ h => h)
    | 2, _ => exact stepP F rfl (fun _ => rfl) (fun _ _ => by kernel_rfl) (fun _ => rfl) (fun _ _ _ h => h)
    | 3, _ => exact stepL (fun _ => ⟨p, 29, none⟩) F rfl (fun _ => rfl) (fun _ => rfl) rfl (fun _ => rfl) Tryz.underlying3 rfl (fun x L w z1 z2 z3 h => by
      have h : X x w := h
      exact ⟨M3 x  w h, h⟩)
    | 4, _ => exact stepP F rfl (fun _ => rfl) (fun _ _ => by kernel_rfl) (fun _ => rfl) (fun _ _ _ h => h)
    | 5, _ => exact stepP F rfl (fun _ => rfl) (fun _ _ => by kernel_rfl) (fun _ => rfl) (fun _ _ _ h => h)
    | 6, _ => exact stepP F rfl (fun _ => rfl) (fun _ _ => by kernel_rfl) (fun _ => rfl) (fun _ _ _ h => h)
    | 7, _ => exact stepR24 (fun _ => (p, 0)) F rfl (fun _ => rfl) (fun _ => rfl) rfl (fun _ => rfl) (fun x L w z1 z2 z3 h => by
      have h : X x w := h
      exact ⟨M7 x  w h, h⟩)
    | 8, _ => exact stepC 66 (fun _ => #[.agg cs]) F rfl (fun _ => rfl) (fun _ => rfl) (fun _ _ => by kernel_rfl) (fun x L w z1 z2 z3 h => by
      have h : X x w := h
      exact C8 x  w h)
    | 9, _ => exact stepE (fun _ => .int .i64 (if mo < wt then mo else wt)) F rfl (fun _ => rfl) (fun _ _ => by kernel_rfl) (fun _ => rfl) (fun _ => congrArg (Value.int .i64) hnn) (fun _ _ _ h => h)
    | 10, _ => exact stepP F rfl (fun _ => rfl) (fun _ _ => by kernel_rfl) (fun _ => rfl) (fun _ _ _ h => h)
    | n + 11, h => exact absurd h (by omega)
  · have hw : X x  w' := hw
    exact hw
noncomputable def R_tik17 : Array Oper := reg Tryz.f31 17
theorem tik17_size : R_tik17.size = 8 := by kernel_rfl
noncomputable def lay_tik17 (p : Nat) (l : Nat) (now : Int) (nn : Int) (_ : Unit) : Lay := [(some 166, .pointer (some ⟨p, 0, none⟩)),
  (some 167, .pointer (some ⟨l, 0, none⟩)),
  (some 168, .int .i64 nn),
  (some 169, .pointer (some ⟨p, 0, none⟩)),
  (some 170, .pointer (some ⟨p, 0, none⟩)),
  (some 171, .pointer (some ⟨p, 20, none⟩)),
  (some 172, .int .i64 now),
  (some 173, .int .i64 0)]
set_option maxRecDepth 1000000 in
theorem tik17_at {ops : Array Oper} (ho : ops = R_tik17) (p : Nat) (l : Nat) (now : Int) (nn : Int) (X : (Unit) → Bool → World → Prop)  (M6 : ∀ (x : (Unit)) (w : World), X x false w → w.cell? ⟨p, 20, none⟩ = some (.int .i64 now)) (C1 : ∀ (x : (Unit)) (w : World), X x false w → Calls Tryz.prog 21 #[.pointer (some ⟨p, 0, none⟩)] w fun e w' => e = .returned (.pointer (some ⟨l, 0, none⟩)) ∧ X x false w') (C7 : ∀ (x : (Unit)) (w : World), X x false w → Calls Tryz.prog 22 #[.pointer (some ⟨l, 0, none⟩), .int .i64 nn, .int .i64 now] w fun e w' => e = .returned (.int .i64 0) ∧ X x true w') (t0 : Array Value) (hz : t0.size = 201) (ht0 : t0[0]? = some (.pointer (some ⟨p, 0, none⟩))) (ht5 : t0[5]? = some (.int .i64 nn)) {id : Nat} {Q : Exit → Act → World → Prop} {w : World} (x0 : (Unit)) (start : X x0 false w.drew) (fin : ∀ x w', X x true w' → Q .normal ⟨puts ((lay_tik17 p l now nn) x) t0, []⟩ w') : (Code.region id ops true).wp Tryz.prog Q ⟨t0, []⟩ w := by
  subst ho
  have F : Flows (X := (Unit)) R_tik17 (lay_tik17 p l now nn) [(0, .pointer (some ⟨p, 0, none⟩)), (5, .int .i64 nn)] t0 9 := Flows.of (by kernel_rfl) hz (fun _ => by kernel_rfl) (.cons ht0 (.cons ht5 .nil))
  refine wp_flow (Wd := (fun x L => X x (L 7))) F rfl x0 start (fun i hi => ?_) (fun x L w' hl hw => fin x w' ?_)
  · rw [tik17_size] at hi
    match i, hi with
    | 0, _ => exact stepP F rfl (fun _ => rfl) (fun _ _ => by kernel_rfl) (fun _ => rfl) (fun _ _ _ h => h)
    | 1, _ => exact stepC 21 (fun _ => #[.pointer (some ⟨p, 0, none⟩)]) F rfl (fun _ => rfl) (fun _ => rfl) (fun _ _ => by kernel_rfl) (fun x L w z1 z2 z3 h => by
      have h : X x (L 7) w := h
      have e7 := fls z3 9 7 (by kernel_rfl)
      simp only [e7] at h ⊢
      exact C1 x  w h)
    | 2, _ => exact stepP F rfl (fun _ => rfl) (fun _ _ => by kernel_rfl) (fun _ => rfl) (fun _ _ _ h => h)
    | 3, _ => exact stepP F rfl (fun _ => rfl) (fun _ _ => by kernel_rfl) (fun _ => rfl) (fun _ _ _ h => h)
    | 4, _ => exact stepP F rfl (fun _ => rfl) (fun _ _ => by kernel_rfl) (fun _ => rfl) (fun _ _ _ h => h)
    | 5, _ => exact stepP F rfl (fun _ => rfl) (fun _ _ => by kernel_rfl) (fun _ => rfl) (fun _ _ _ h => h)
    | 6, _ => exact stepL (fun _ => ⟨p, 20, none⟩) F rfl (fun _ => rfl) (fun _ => rfl) rfl (fun _ => rfl) Tryz.underlying2 rfl (fun x L w z1 z2 z3 h => by
      have h : X x (L 7) w := h
      have e7 := fls z3 9 7 (by kernel_rfl)
      simp only [e7] at h ⊢
      exact ⟨M6 x  w h, h⟩)
    | 7, _ => exact stepC 22 (fun _ => #[.pointer (some ⟨l, 0, none⟩), .int .i64 nn, .int .i64 now]) F rfl (fun _ => rfl) (fun _ => rfl) (fun _ _ => by kernel_rfl) (fun x L w z1 z2 z3 h => by
      have h : X x (L 7) w := h
      have e7 : L 7 = false := z1
      simp only [e7] at h ⊢
      exact C7 x  w h)
    | n + 8, h => exact absurd h (by omega)
  · have hw : X x (L 7) w' := hw
    rw [hl 7 (by rw [tik17_size]; omega)] at hw
    exact hw
noncomputable def R_tik19 : Array Oper := reg Tryz.f31 19
theorem tik19_size : R_tik19.size = 12 := by kernel_rfl
noncomputable def lay_tik19 (p : Nat) (vt : Option Addr) (tn : Nat) (ct : Nat) (now : Int) (wt : Int) (pn : Bool) (px : Bool) (np : Nat) (nq : Nat) (bz : Int) (en0 : Int) (en1 : Int) (en2 : Int) (en3 : Int) (en4 : Int) (en5 : Int) (en6 : Int) (x : ((Option Addr × Nat) × Bool) × Nat × (Option Addr × Nat)) : Lay := [(some 176, .pointer (some ⟨p, 0, none⟩)),
  (some 177, .pointer (some ⟨p, 0, none⟩)),
  (some 178, .pointer (some ⟨p, 0, none⟩)),
  (some 179, .pointer (some ⟨p, 33, none⟩)),
  (some 180, .slice (vt) (tn) (ct)),
  (some 181, .pointer (some ⟨p, 0, none⟩)),
  (some 182, .agg #[.int .i64 now, .int .i64 wt, .bool pn, .bool px, .slice (x.1.1.1) (np) (x.1.1.2), .int .i64 nq, .int .i64 bz, .int .i64 en0, .int .i64 en1, .int .i64 en2, .int .i64 en3, .int .i64 en4, .int .i64 en5, .int .i64 en6, .bool x.1.2]),
  (some 183, .slice (some ⟨x.2.1, 0, none⟩) (1) (1)),
  (some 184, .slice (x.2.2.1) (tn + 1) (x.2.2.2)),
  (some 185, .pointer (some ⟨p, 0, none⟩)),
  (some 186, .pointer (some ⟨p, 33, none⟩)),
  (none, undef)]
set_option maxRecDepth 1000000 in
theorem tik19_at {ops : Array Oper} (ho : ops = R_tik19) (p : Nat) (vt : Option Addr) (tn : Nat) (ct : Nat) (now : Int) (wt : Int) (pn : Bool) (px : Bool) (np : Nat) (nq : Nat) (bz : Int) (en0 : Int) (en1 : Int) (en2 : Int) (en3 : Int) (en4 : Int) (en5 : Int) (en6 : Int) (X : (((Option Addr × Nat) × Bool) × Nat × (Option Addr × Nat)) → Bool → Bool → Bool → Bool → World → Prop)  (M4 : ∀ (x : (((Option Addr × Nat) × Bool) × Nat × (Option Addr × Nat))) (b0 : Bool) (b1 : Bool) (w : World), X x b0 b1 false false w → w.cell? ⟨p, 33, none⟩ = some (.slice (vt) (tn) (ct))) (C6 : ∀ (x : (((Option Addr × Nat) × Bool) × Nat × (Option Addr × Nat))) (w : World), X x false false false false w → Calls Tryz.prog 13 #[.pointer (some ⟨p, 0, none⟩)] w fun e w' => ∃ y : ((Option Addr × Nat) × Bool), e = .returned (.agg #[.int .i64 now, .int .i64 wt, .bool pn, .bool px, .slice (y.1.1) (np) (y.1.2), .int .i64 nq, .int .i64 bz, .int .i64 en0, .int .i64 en1, .int .i64 en2, .int .i64 en3, .int .i64 en4, .int .i64 en5, .int .i64 en6, .bool y.2]) ∧ X (y, x.2.1, x.2.2) true false false false w') (B7 : ∀ (x : (((Option Addr × Nat) × Bool) × Nat × (Option Addr × Nat))) (w : World), X x true false false false w → X (x.1, w.heap.size, x.2.2) true true false false (w.alloc (.cells #[.int .i64 now, .int .i64 wt, .bool pn, .bool px, .slice (x.1.1.1) (np) (x.1.1.2), .int .i64 nq, .int .i64 bz, .int .i64 en0, .int .i64 en1, .int .i64 en2, .int .i64 en3, .int .i64 en4, .int .i64 en5, .int .i64 en6, .bool x.1.2] 38))) (B8 : ∀ (x : (((Option Addr × Nat) × Bool) × Nat × (Option Addr × Nat))) (w : World), X x true true false false w → ∃ (S : Nat → Prop) (xs : List Value), Own w S 38 15 (.slice (vt) (tn) (ct)) (tn) xs ∧ (∀ j u, ([.int .i64 now, .int .i64 wt, .bool pn, .bool px, .slice (x.1.1.1) (np) (x.1.1.2), .int .i64 nq, .int .i64 bz, .int .i64 en0, .int .i64 en1, .int .i64 en2, .int .i64 en3, .int .i64 en4, .int .i64 en5, .int .i64 en6, .bool x.1.2] : List Value)[j]? = some u → w.cell? ((⟨x.2.1, 0, none⟩ : Addr).add j) = some u) ∧ (tn) + 1 ≤ maxLen ∧ ((tn) + 1) * 128 ≤ 140737488355328 ∧ ∀ g' o' c' w', Own w' (nx S w w') 38 15 (.slice (some ⟨g', o', none⟩) ((tn) + 1) c') ((tn) + 1) (xs ++ [.int .i64 now, .int .i64 wt, .bool pn, .bool px, .slice (x.1.1.1) (np) (x.1.1.2), .int .i64 nq, .int .i64 bz, .int .i64 en0, .int .i64 en1, .int .i64 en2, .int .i64 en3, .int .i64 en4, .int .i64 en5, .int .i64 en6, .bool x.1.2]) → Chg S w w' → X (x.1, x.2.1, (some ⟨g', o', none⟩, c')) true true true false w') (S11 : ∀ (x : (((Option Addr × Nat) × Bool) × Nat × (Option Addr × Nat))) (w : World), X x true true true false w → ∃ u0, w.cell? ⟨p, 33, none⟩ = some u0 ∧ w.frozen? ⟨p, 33, none⟩ = false ∧ X x true true true true (w.setCell ⟨p, 33, none⟩ (.slice (x.2.2.1) (tn + 1) (x.2.2.2)))) (t0 : Array Value) (hz : t0.size = 201) (ht0 : t0[0]? = some (.pointer (some ⟨p, 0, none⟩))) {id : Nat} {Q : Exit → Act → World → Prop} {w : World} (x0 : (((Option Addr × Nat) × Bool) × Nat × (Option Addr × Nat))) (start : X x0 false false false false w.drew) (fin : ∀ x w', X x true true true true w' → Q .normal ⟨puts ((lay_tik19 p vt tn ct now wt pn px np nq bz en0 en1 en2 en3 en4 en5 en6) x) t0, []⟩ w') : (Code.region id ops true).wp Tryz.prog Q ⟨t0, []⟩ w := by
  subst ho
  have F : Flows (X := (((Option Addr × Nat) × Bool) × Nat × (Option Addr × Nat))) R_tik19 (lay_tik19 p vt tn ct now wt pn px np nq bz en0 en1 en2 en3 en4 en5 en6) [(0, .pointer (some ⟨p, 0, none⟩))] t0 9 := Flows.of (by kernel_rfl) hz (fun _ => by kernel_rfl) (.cons ht0 .nil)
  refine wp_flow (Wd := (fun x L => X x (L 6) (L 7) (L 8) (L 11))) F rfl x0 start (fun i hi => ?_) (fun x L w' hl hw => fin x w' ?_)
  · rw [tik19_size] at hi
    match i, hi with
    | 0, _ => exact stepP F rfl (fun _ => rfl) (fun _ _ => by kernel_rfl) (fun _ => rfl) (fun _ _ _ h => h)
    | 1, _ => exact stepP F rfl (fun _ => rfl) (fun _ _ => by kernel_rfl) (fun _ => rfl) (fun _ _ _ h => h)
    | 2, _ => exact stepP F rfl (fun _ => rfl) (fun _ _ => by kernel_rfl) (fun _ => rfl) (fun _ _ _ h => h)
    | 3, _ => exact stepP F rfl (fun _ => rfl) (fun _ _ => by kernel_rfl) (fun _ => rfl) (fun _ _ _ h => h)
    | 4, _ => exact stepL (fun _ => ⟨p, 33, none⟩) F rfl (fun _ => rfl) (fun _ => rfl) rfl (fun _ => rfl) Tryz.underlying64 rfl (fun x L w z1 z2 z3 h => by
      have h : X x (L 6) (L 7) (L 8) (L 11) w := h
      have e8 := fls z3 9 8 (by kernel_rfl)
      have e11 := fls z3 9 11 (by kernel_rfl)
      simp only [e8, e11] at h ⊢
      exact ⟨M4 x _ _ w h, h⟩)
    | 5, _ => exact stepP F rfl (fun _ => rfl) (fun _ _ => by kernel_rfl) (fun _ => rfl) (fun _ _ _ h => h)
    | 6, _ => exact stepY 13 (fun _ => #[.pointer (some ⟨p, 0, none⟩)]) F rfl (fun _ => rfl) (fun _ => rfl) (fun _ _ => by kernel_rfl) (fun x L w z1 z2 z3 h => by
      have h : X x (L 6) (L 7) (L 8) (L 11) w := h
      have e6 : L 6 = false := z1
      have e7 := fls z3 9 7 (by kernel_rfl)
      have e8 := fls z3 9 8 (by kernel_rfl)
      have e11 := fls z3 9 11 (by kernel_rfl)
      simp only [e6, e7, e8, e11] at h ⊢
      exact (C6 x  w h).mono fun e w' ⟨y, he, hx⟩ => ⟨(y, x.2.1, x.2.2), he, but_all (D := [6, 7, 8, 11]) (desc 9 z1 z3 (by kernel_rfl)) rfl, hx⟩)
    | 7, _ => exact stepM (fun x z => (x.1, z, x.2.2)) (fun _ z => .slice (some ⟨z, 0, none⟩) (1) (1)) (fun x => .cells #[.int .i64 now, .int .i64 wt, .bool pn, .bool px, .slice (x.1.1.1) (np) (x.1.1.2), .int .i64 nq, .int .i64 bz, .int .i64 en0, .int .i64 en1, .int .i64 en2, .int .i64 en3, .int .i64 en4, .int .i64 en5, .int .i64 en6, .bool x.1.2] 38) F rfl (fun _ => rfl) (fun _ _ => by kernel_rfl) (fun _ _ => rfl) (fun x L w z1 z2 z3 h => by
      have h : X x (L 6) (L 7) (L 8) (L 11) w := h
      have e6 := z2 6 (by kernel_rfl)
      have e7 : L 7 = false := z1
      have e8 := fls z3 9 8 (by kernel_rfl)
      have e11 := fls z3 9 11 (by kernel_rfl)
      simp only [e6, e7, e8, e11] at h ⊢
      exact ⟨but_all (D := [7, 8, 11]) (desc 9 z1 z3 (by kernel_rfl)) rfl, B7 x  w h⟩)
    | 8, _ => exact stepA (fun x y => (x.1, x.2.1, y)) (.tmp 180) (.tmp 183) 64 (fun _ => .slice (vt) (tn) (ct)) (fun x => (x.2.1, tn)) F rfl (fun _ => rfl) rfl (fun _ => rfl) (fun _ => rfl) (fun _ _ => rfl) Tryz.underlying64 (fun x => [.int .i64 now, .int .i64 wt, .bool pn, .bool px, .slice (x.1.1.1) (np) (x.1.1.2), .int .i64 nq, .int .i64 bz, .int .i64 en0, .int .i64 en1, .int .i64 en2, .int .i64 en3, .int .i64 en4, .int .i64 en5, .int .i64 en6, .bool x.1.2]) info38 rfl (fun _ => rfl) (fun _ => rfl) (fun x L w z1 z2 z3 h => by
      have h : X x (L 6) (L 7) (L 8) (L 11) w := h
      have e6 := z2 6 (by kernel_rfl)
      have e7 := z2 7 (by kernel_rfl)
      have e8 : L 8 = false := z1
      have e11 := fls z3 9 11 (by kernel_rfl)
      simp only [e6, e7, e8, e11] at h ⊢
      obtain ⟨S, xs, hown, hnews, h63, hby, hK⟩ := B8 x  w h
      exact ⟨S, xs, hown, hnews, h63, hby, fun g' o' c' w' ho' hc' => ⟨but_all (D := [8, 11]) (desc 9 z1 z3 (by kernel_rfl)) rfl, hK g' o' c' w' ho' hc'⟩⟩)
    | 9, _ => exact stepP F rfl (fun _ => rfl) (fun _ _ => by kernel_rfl) (fun _ => rfl) (fun _ _ _ h => h)
    | 10, _ => exact stepP F rfl (fun _ => rfl) (fun _ _ => by kernel_rfl) (fun _ => rfl) (fun _ _ _ h => h)
    | 11, _ => exact stepS (fun _ => (p, 33)) F rfl (fun _ => rfl) (fun _ => rfl) rfl rfl (fun _ => rfl) (fun _ => rfl) (by kernel_rfl) (fun _ => rfl) (fun x L w z1 z2 z3 h => by
      have h : X x (L 6) (L 7) (L 8) (L 11) w := h
      have e6 := z2 6 (by kernel_rfl)
      have e7 := z2 7 (by kernel_rfl)
      have e8 := z2 8 (by kernel_rfl)
      have e11 : L 11 = false := z1
      simp only [e6, e7, e8, e11] at h ⊢
      obtain ⟨u0, c0, g0, hx⟩ := S11 x  w h
      exact ⟨⟨u0, c0⟩, g0, hx⟩)
    | n + 12, h => exact absurd h (by omega)
  · have hw : X x (L 6) (L 7) (L 8) (L 11) w' := hw
    rw [hl 6 (by rw [tik19_size]; omega), hl 7 (by rw [tik19_size]; omega), hl 8 (by rw [tik19_size]; omega), hl 11 (by rw [tik19_size]; omega)] at hw
    exact hw
end Go.Proofs.YtdgphoemjeakaaaGreatDoor.Y
namespace Go.Proofs.YtdgphoemjeakaaaGreatDoor.Y
open Go.RowKit K P W Rg
noncomputable def R_do18 : Array Oper := reg Tryz.f12 18
theorem do18_size : R_do18.size = 12 := by kernel_rfl
noncomputable def lay_do18 (p : Nat) (B : Nat) (lo : Int) (ev : Int) (_ : Unit) : Lay := [(some 43, .pointer (some ⟨p, 0, none⟩)),
  (some 44, .pointer (some ⟨p, 0, none⟩)),
  (some 45, .pointer (some ⟨p, 0, none⟩)),
  (some 46, .pointer (some ⟨p, 32, none⟩)),
  (some 47, .int .i64 lo),
  (some 48, .pointer (some ⟨B, 1, none⟩)),
  (some 49, .int .i64 ev),
  (some 50, .int .i64 (lo + ev)),
  (some 51, .int .i64 (min (lo + ev) 1000)),
  (some 52, .pointer (some ⟨p, 0, none⟩)),
  (some 53, .pointer (some ⟨p, 32, none⟩)),
  (none, undef)]
set_option maxRecDepth 1000000 in
theorem do18_at {ops : Array Oper} (ho : ops = R_do18) (p : Nat) (B : Nat) (lo : Int) (ev : Int) (X : (Unit) → Bool → World → Prop) (hq0 : 0 ≤ lo) (hq1 : lo ≤ 1000) (hq2 : 0 ≤ ev) (hq3 : ev ≤ 1000) (M4 : ∀ (x : (Unit)) (w : World), X x false w → w.cell? ⟨p, 32, none⟩ = some (.int .i64 lo)) (M6 : ∀ (x : (Unit)) (w : World), X x false w → w.cell? ⟨B, 1, none⟩ = some (.int .i64 ev)) (S11 : ∀ (x : (Unit)) (w : World), X x false w → ∃ u0, w.cell? ⟨p, 32, none⟩ = some u0 ∧ w.frozen? ⟨p, 32, none⟩ = false ∧ X x true (w.setCell ⟨p, 32, none⟩ (.int .i64 (min (lo + ev) 1000)))) (t0 : Array Value) (hz : t0.size = 71) (ht0 : t0[0]? = some (.pointer (some ⟨p, 0, none⟩))) (ht3 : t0[3]? = some (.pointer (some ⟨B, 0, none⟩))) {id : Nat} {Q : Exit → Act → World → Prop} {w : World} (x0 : (Unit)) (start : X x0 false w.drew) (fin : ∀ x w', X x true w' → Q .normal ⟨puts ((lay_do18 p B lo ev) x) t0, []⟩ w') : (Code.region id ops true).wp Tryz.prog Q ⟨t0, []⟩ w := by
  subst ho
  have F : Flows (X := (Unit)) R_do18 (lay_do18 p B lo ev) [(0, .pointer (some ⟨p, 0, none⟩)), (3, .pointer (some ⟨B, 0, none⟩))] t0 9 := Flows.of (by kernel_rfl) hz (fun _ => by kernel_rfl) (.cons ht0 (.cons ht3 .nil))
  refine wp_flow (Wd := (fun x L => X x (L 11))) F rfl x0 start (fun i hi => ?_) (fun x L w' hl hw => fin x w' ?_)
  · rw [do18_size] at hi
    match i, hi with
    | 0, _ => exact stepP F rfl (fun _ => rfl) (fun _ _ => by kernel_rfl) (fun _ => rfl) (fun _ _ _ h => h)
    | 1, _ => exact stepP F rfl (fun _ => rfl) (fun _ _ => by kernel_rfl) (fun _ => rfl) (fun _ _ _ h => h)
    | 2, _ => exact stepP F rfl (fun _ => rfl) (fun _ _ => by kernel_rfl) (fun _ => rfl) (fun _ _ _ h => h)
    | 3, _ => exact stepP F rfl (fun _ => rfl) (fun _ _ => by kernel_rfl) (fun _ => rfl) (fun _ _ _ h => h)
    | 4, _ => exact stepL (fun _ => ⟨p, 32, none⟩) F rfl (fun _ => rfl) (fun _ => rfl) rfl (fun _ => rfl) Tryz.underlying3 rfl (fun x L w z1 z2 z3 h => by
      have h : X x (L 11) w := h
      have e11 := fls z3 9 11 (by kernel_rfl)
      simp only [e11] at h ⊢
      exact ⟨M4 x  w h, h⟩)
    | 5, _ => exact stepP F rfl (fun _ => rfl) (fun _ _ => by kernel_rfl) (fun _ => rfl) (fun _ _ _ h => h)
    | 6, _ => exact stepL (fun _ => ⟨B, 1, none⟩) F rfl (fun _ => rfl) (fun _ => rfl) rfl (fun _ => rfl) Tryz.underlying3 rfl (fun x L w z1 z2 z3 h => by
      have h : X x (L 11) w := h
      have e11 := fls z3 9 11 (by kernel_rfl)
      simp only [e11] at h ⊢
      exact ⟨M6 x  w h, h⟩)
    | 7, _ => exact stepE (fun _ => .int .i64 (IntKind.i64.wrap (lo + ev))) F rfl (fun _ => rfl) (fun _ _ => by kernel_rfl) (fun _ => rfl) (fun _ => congrArg (Value.int .i64) (by first | rfl | (rw [IntKind.wrap_i64]; omega))) (fun _ _ _ h => h)
    | 8, _ => exact stepE (fun _ => .int .i64 (if 1000 < lo + ev then 1000 else lo + ev)) F rfl (fun _ => rfl) (fun _ _ => by kernel_rfl) (fun _ => rfl) (fun _ => congrArg (Value.int .i64) (by first | rfl | omega)) (fun _ _ _ h => h)
    | 9, _ => exact stepP F rfl (fun _ => rfl) (fun _ _ => by kernel_rfl) (fun _ => rfl) (fun _ _ _ h => h)
    | 10, _ => exact stepP F rfl (fun _ => rfl) (fun _ _ => by kernel_rfl) (fun _ => rfl) (fun _ _ _ h => h)
    | 11, _ => exact stepS (fun _ => (p, 32)) F rfl (fun _ => rfl) (fun _ => rfl) rfl rfl (fun _ => rfl) (fun _ => rfl) (by kernel_rfl) (fun _ => rfl) (fun x L w z1 z2 z3 h => by
      have h : X x (L 11) w := h
      have e11 : L 11 = false := z1
      simp only [e11] at h ⊢
      obtain ⟨u0, c0, g0, hx⟩ := S11 x  w h
      exact ⟨⟨u0, c0⟩, g0, hx⟩)
    | n + 12, h => exact absurd h (by omega)
  · have hw : X x (L 11) w' := hw
    rw [hl 11 (by rw [do18_size]; omega)] at hw
    exact hw
end Go.Proofs.YtdgphoemjeakaaaGreatDoor.Y
namespace Go.Proofs.YtdgphoemjeakaaaGreatDoor.Y
open Go.RowKit K P W Rg
noncomputable def R_new4 : Array Oper := reg Tryz.f8 4
theorem new4_size : R_new4.size = 5 := by kernel_rfl
noncomputable def lay_new4 (B : Nat) (p : Nat) (l : Nat) (ini : Int) (_ : Unit) : Lay := [(some 24, .pointer (some ⟨p, 0, none⟩)),
  (some 25, .pointer (some ⟨l, 0, none⟩)),
  (some 26, .pointer (some ⟨B, 10, none⟩)),
  (some 27, .int .i64 ini),
  (some 28, .int .i64 0)]
set_option maxRecDepth 1000000 in
theorem new4_at {ops : Array Oper} (ho : ops = R_new4) (B : Nat) (p : Nat) (l : Nat) (ini : Int) (X : (Unit) → Bool → World → Prop)  (M3 : ∀ (x : (Unit)) (w : World), X x false w → w.cell? ⟨B, 10, none⟩ = some (.int .i64 ini)) (C1 : ∀ (x : (Unit)) (w : World), X x false w → Calls Tryz.prog 21 #[.pointer (some ⟨p, 0, none⟩)] w fun e w' => e = .returned (.pointer (some ⟨l, 0, none⟩)) ∧ X x false w') (C4 : ∀ (x : (Unit)) (w : World), X x false w → Calls Tryz.prog 22 #[.pointer (some ⟨l, 0, none⟩), .int .i64 ini, .int .i64 0] w fun e w' => e = .returned (.int .i64 0) ∧ X x true w') (t0 : Array Value) (hz : t0.size = 44) (ht1 : t0[1]? = some (.pointer (some ⟨B, 0, none⟩))) (ht4 : t0[4]? = some (.pointer (some ⟨p, 0, none⟩))) {id : Nat} {Q : Exit → Act → World → Prop} {w : World} (x0 : (Unit)) (start : X x0 false w.drew) (fin : ∀ x w', X x true w' → Q .normal ⟨puts ((lay_new4 B p l ini) x) t0, []⟩ w') : (Code.region id ops true).wp Tryz.prog Q ⟨t0, []⟩ w := by
  subst ho
  have F : Flows (X := (Unit)) R_new4 (lay_new4 B p l ini) [(1, .pointer (some ⟨B, 0, none⟩)), (4, .pointer (some ⟨p, 0, none⟩))] t0 9 := Flows.of (by kernel_rfl) hz (fun _ => by kernel_rfl) (.cons ht1 (.cons ht4 .nil))
  refine wp_flow (Wd := (fun x L => X x (L 4))) F rfl x0 start (fun i hi => ?_) (fun x L w' hl hw => fin x w' ?_)
  · rw [new4_size] at hi
    match i, hi with
    | 0, _ => exact stepP F rfl (fun _ => rfl) (fun _ _ => by kernel_rfl) (fun _ => rfl) (fun _ _ _ h => h)
    | 1, _ => exact stepC 21 (fun _ => #[.pointer (some ⟨p, 0, none⟩)]) F rfl (fun _ => rfl) (fun _ => rfl) (fun _ _ => by kernel_rfl) (fun x L w z1 z2 z3 h => by
      have h : X x (L 4) w := h
      have e4 := fls z3 9 4 (by kernel_rfl)
      simp only [e4] at h ⊢
      exact C1 x  w h)
    | 2, _ => exact stepP F rfl (fun _ => rfl) (fun _ _ => by kernel_rfl) (fun _ => rfl) (fun _ _ _ h => h)
    | 3, _ => exact stepL (fun _ => ⟨B, 10, none⟩) F rfl (fun _ => rfl) (fun _ => rfl) rfl (fun _ => rfl) Tryz.underlying3 rfl (fun x L w z1 z2 z3 h => by
      have h : X x (L 4) w := h
      have e4 := fls z3 9 4 (by kernel_rfl)
      simp only [e4] at h ⊢
      exact ⟨M3 x  w h, h⟩)
    | 4, _ => exact stepC 22 (fun _ => #[.pointer (some ⟨l, 0, none⟩), .int .i64 ini, .int .i64 0]) F rfl (fun _ => rfl) (fun _ => rfl) (fun _ _ => by kernel_rfl) (fun x L w z1 z2 z3 h => by
      have h : X x (L 4) w := h
      have e4 : L 4 = false := z1
      simp only [e4] at h ⊢
      exact C4 x  w h)
    | n + 5, h => exact absurd h (by omega)
  · have hw : X x (L 4) w' := hw
    rw [hl 4 (by rw [new4_size]; omega)] at hw
    exact hw
noncomputable def R_new6 : Array Oper := reg Tryz.f8 6
theorem new6_size : R_new6.size = 12 := by kernel_rfl
noncomputable def lay_new6 (cs : Array Value) (B : Nat) (p : Nat) (ini : Int) (pf : Int → Bool) (x : Int) : Lay := [(some 32, .pointer (some ⟨p, 0, none⟩)),
  (some 33, .agg cs),
  (some 34, .pointer (some ⟨B, 10, none⟩)),
  (some 35, .int .i64 ini),
  (some 36, .agg cs),
  (some 37, .pointer (some ⟨B, 10, none⟩)),
  (some 38, .int .i64 ini),
  (some 39, .int .i64 x),
  (some 40, .bool (pf x)),
  (some 41, .pointer (some ⟨p, 0, none⟩)),
  (some 42, .pointer (some ⟨p, 30, none⟩)),
  (none, undef)]
set_option maxRecDepth 1000000 in
theorem new6_at {ops : Array Oper} (ho : ops = R_new6) (cs : Array Value) (B : Nat) (p : Nat) (ini : Int) (pf : Int → Bool) (X : (Int) → Bool → World → Prop)  (M1 : ∀ (x : (Int)) (w : World), X x false w → rowOf w B (0) 20 = some (.agg cs)) (M3 : ∀ (x : (Int)) (w : World), X x false w → w.cell? ⟨B, 10, none⟩ = some (.int .i64 ini)) (C7 : ∀ (x : (Int)) (w : World), X x false w → Calls Tryz.prog 25 #[.agg cs, .int .i64 ini, .int .i64 0] w fun e w' => ∃ y : Int, e = .returned (.int .i64 y) ∧ X y false w') (C8 : ∀ (x : (Int)) (w : World), X x false w → Calls Tryz.prog 24 #[.agg cs, .int .i64 ini, .int .i64 x] w fun e w' => e = .returned (.bool (pf x)) ∧ X x false w') (S11 : ∀ (x : (Int)) (w : World), X x false w → ∃ u0, w.cell? ⟨p, 30, none⟩ = some u0 ∧ w.frozen? ⟨p, 30, none⟩ = false ∧ X x true (w.setCell ⟨p, 30, none⟩ (.bool (pf x)))) (t0 : Array Value) (hz : t0.size = 44) (ht1 : t0[1]? = some (.pointer (some ⟨B, 0, none⟩))) (ht4 : t0[4]? = some (.pointer (some ⟨p, 0, none⟩))) {id : Nat} {Q : Exit → Act → World → Prop} {w : World} (x0 : (Int)) (start : X x0 false w.drew) (fin : ∀ x w', X x true w' → Q .normal ⟨puts ((lay_new6 cs B p ini pf) x) t0, []⟩ w') : (Code.region id ops true).wp Tryz.prog Q ⟨t0, []⟩ w := by
  subst ho
  have F : Flows (X := (Int)) R_new6 (lay_new6 cs B p ini pf) [(1, .pointer (some ⟨B, 0, none⟩)), (4, .pointer (some ⟨p, 0, none⟩))] t0 9 := Flows.of (by kernel_rfl) hz (fun _ => by kernel_rfl) (.cons ht1 (.cons ht4 .nil))
  refine wp_flow (Wd := (fun x L => X x (L 11))) F rfl x0 start (fun i hi => ?_) (fun x L w' hl hw => fin x w' ?_)
  · rw [new6_size] at hi
    match i, hi with
    | 0, _ => exact stepP F rfl (fun _ => rfl) (fun _ _ => by kernel_rfl) (fun _ => rfl) (fun _ _ _ h => h)
    | 1, _ => exact stepR24 (fun _ => (B, 0)) F rfl (fun _ => rfl) (fun _ => rfl) rfl (fun _ => rfl) (fun x L w z1 z2 z3 h => by
      have h : X x (L 11) w := h
      have e11 := fls z3 9 11 (by kernel_rfl)
      simp only [e11] at h ⊢
      exact ⟨M1 x  w h, h⟩)
    | 2, _ => exact stepP F rfl (fun _ => rfl) (fun _ _ => by kernel_rfl) (fun _ => rfl) (fun _ _ _ h => h)
    | 3, _ => exact stepL (fun _ => ⟨B, 10, none⟩) F rfl (fun _ => rfl) (fun _ => rfl) rfl (fun _ => rfl) Tryz.underlying3 rfl (fun x L w z1 z2 z3 h => by
      have h : X x (L 11) w := h
      have e11 := fls z3 9 11 (by kernel_rfl)
      simp only [e11] at h ⊢
      exact ⟨M3 x  w h, h⟩)
    | 4, _ => exact stepR24 (fun _ => (B, 0)) F rfl (fun _ => rfl) (fun _ => rfl) rfl (fun _ => rfl) (fun x L w z1 z2 z3 h => by
      have h : X x (L 11) w := h
      have e11 := fls z3 9 11 (by kernel_rfl)
      simp only [e11] at h ⊢
      exact ⟨M1 x  w h, h⟩)
    | 5, _ => exact stepP F rfl (fun _ => rfl) (fun _ _ => by kernel_rfl) (fun _ => rfl) (fun _ _ _ h => h)
    | 6, _ => exact stepL (fun _ => ⟨B, 10, none⟩) F rfl (fun _ => rfl) (fun _ => rfl) rfl (fun _ => rfl) Tryz.underlying3 rfl (fun x L w z1 z2 z3 h => by
      have h : X x (L 11) w := h
      have e11 := fls z3 9 11 (by kernel_rfl)
      simp only [e11] at h ⊢
      exact ⟨M3 x  w h, h⟩)
    | 7, _ => exact stepY 25 (fun _ => #[.agg cs, .int .i64 ini, .int .i64 0]) F rfl (fun _ => rfl) (fun _ => rfl) (fun _ _ => by kernel_rfl) (fun x L w z1 z2 z3 h => by
      have h : X x (L 11) w := h
      have e11 := fls z3 9 11 (by kernel_rfl)
      simp only [e11] at h ⊢
      exact (C7 x  w h).mono fun e w' ⟨y, he, hx⟩ => ⟨y, he, but_all (D := [7, 8, 11]) (desc 9 z1 z3 (by kernel_rfl)) rfl, hx⟩)
    | 8, _ => exact stepC 24 (fun x => #[.agg cs, .int .i64 ini, .int .i64 x]) F rfl (fun _ => rfl) (fun _ => rfl) (fun _ _ => by kernel_rfl) (fun x L w z1 z2 z3 h => by
      have h : X x (L 11) w := h
      have e11 := fls z3 9 11 (by kernel_rfl)
      simp only [e11] at h ⊢
      exact C8 x  w h)
    | 9, _ => exact stepP F rfl (fun _ => rfl) (fun _ _ => by kernel_rfl) (fun _ => rfl) (fun _ _ _ h => h)
    | 10, _ => exact stepP F rfl (fun _ => rfl) (fun _ _ => by kernel_rfl) (fun _ => rfl) (fun _ _ _ h => h)
    | 11, _ => exact stepS (fun _ => (p, 30)) F rfl (fun _ => rfl) (fun _ => rfl) rfl rfl (fun _ => rfl) (fun _ => rfl) (by kernel_rfl) (fun _ => rfl) (fun x L w z1 z2 z3 h => by
      have h : X x (L 11) w := h
      have e11 : L 11 = false := z1
      simp only [e11] at h ⊢
      obtain ⟨u0, c0, g0, hx⟩ := S11 x  w h
      exact ⟨⟨u0, c0⟩, g0, hx⟩)
    | n + 12, h => exact absurd h (by omega)
  · have hw : X x (L 11) w' := hw
    rw [hl 11 (by rw [new6_size]; omega)] at hw
    exact hw
end Go.Proofs.YtdgphoemjeakaaaGreatDoor.Y
namespace Go.Proofs.YtdgphoemjeakaaaGreatDoor.Y
open Go.RowKit K P W Rg
noncomputable def R_chg5 : Array Oper := reg Tryz.f30 5
theorem chg5_size : R_chg5.size = 4 := by kernel_rfl
noncomputable def lay_chg5 (cs : Array Value) (p : Nat) (_B : Nat) (d : Nat) (x : Int) : Lay := [(some 25, .pointer (some ⟨p, 0, none⟩)),
  (some 26, .pointer (some ⟨d, 0, none⟩)),
  (some 27, .agg cs),
  (some 28, .int .i64 x)]
set_option maxRecDepth 1000000 in
theorem chg5_at {ops : Array Oper} (ho : ops = R_chg5) (cs : Array Value) (p : Nat) (B : Nat) (d : Nat) (X : (Int) → Bool → World → Prop)  (M2 : ∀ (x : (Int)) (w : World), X x false w → rowOf w B (0) 20 = some (.agg cs)) (C1 : ∀ (x : (Int)) (w : World), X x false w → Calls Tryz.prog 35 #[.pointer (some ⟨p, 0, none⟩)] w fun e w' => e = .returned (.pointer (some ⟨d, 0, none⟩)) ∧ X x false w') (C3 : ∀ (x : (Int)) (w : World), X x false w → Calls Tryz.prog 57 #[.pointer (some ⟨d, 0, none⟩), .agg cs] w fun e w' => ∃ y : Int, e = .returned (.int .i64 y) ∧ X y true w') (t0 : Array Value) (hz : t0.size = 36) (ht0 : t0[0]? = some (.pointer (some ⟨p, 0, none⟩))) (ht5 : t0[5]? = some (.pointer (some ⟨B, 0, none⟩))) {id : Nat} {Q : Exit → Act → World → Prop} {w : World} (x0 : (Int)) (start : X x0 false w.drew) (fin : ∀ x w', X x true w' → Q .normal ⟨puts ((lay_chg5 cs p B d) x) t0, []⟩ w') : (Code.region id ops true).wp Tryz.prog Q ⟨t0, []⟩ w := by
  subst ho
  have F : Flows (X := (Int)) R_chg5 (lay_chg5 cs p B d) [(0, .pointer (some ⟨p, 0, none⟩)), (5, .pointer (some ⟨B, 0, none⟩))] t0 9 := Flows.of (by kernel_rfl) hz (fun _ => by kernel_rfl) (.cons ht0 (.cons ht5 .nil))
  refine wp_flow (Wd := (fun x L => X x (L 3))) F rfl x0 start (fun i hi => ?_) (fun x L w' hl hw => fin x w' ?_)
  · rw [chg5_size] at hi
    match i, hi with
    | 0, _ => exact stepP F rfl (fun _ => rfl) (fun _ _ => by kernel_rfl) (fun _ => rfl) (fun _ _ _ h => h)
    | 1, _ => exact stepC 35 (fun _ => #[.pointer (some ⟨p, 0, none⟩)]) F rfl (fun _ => rfl) (fun _ => rfl) (fun _ _ => by kernel_rfl) (fun x L w z1 z2 z3 h => by
      have h : X x (L 3) w := h
      have e3 := fls z3 9 3 (by kernel_rfl)
      simp only [e3] at h ⊢
      exact C1 x  w h)
    | 2, _ => exact stepR24 (fun _ => (B, 0)) F rfl (fun _ => rfl) (fun _ => rfl) rfl (fun _ => rfl) (fun x L w z1 z2 z3 h => by
      have h : X x (L 3) w := h
      have e3 := fls z3 9 3 (by kernel_rfl)
      simp only [e3] at h ⊢
      exact ⟨M2 x  w h, h⟩)
    | 3, _ => exact stepY 57 (fun _ => #[.pointer (some ⟨d, 0, none⟩), .agg cs]) F rfl (fun _ => rfl) (fun _ => rfl) (fun _ _ => by kernel_rfl) (fun x L w z1 z2 z3 h => by
      have h : X x (L 3) w := h
      have e3 : L 3 = false := z1
      simp only [e3] at h ⊢
      exact (C3 x  w h).mono fun e w' ⟨y, he, hx⟩ => ⟨y, he, but_all (D := [3]) (desc 9 z1 z3 (by kernel_rfl)) rfl, hx⟩)
    | n + 4, h => exact absurd h (by omega)
  · have hw : X x (L 3) w' := hw
    rw [hl 3 (by rw [chg5_size]; omega)] at hw
    exact hw
noncomputable def R_chg6 : Array Oper := reg Tryz.f30 6
theorem chg6_size : R_chg6.size = 5 := by kernel_rfl
noncomputable def lay_chg6 (p : Nat) (B : Nat) (q : Nat) (dep : Int) (x : Int) : Lay := [(some 29, .pointer (some ⟨p, 0, none⟩)),
  (some 30, .pointer (some ⟨q, 0, none⟩)),
  (some 31, .pointer (some ⟨B, 15, none⟩)),
  (some 32, .int .i64 dep),
  (some 33, .int .i64 x)]
set_option maxRecDepth 1000000 in
theorem chg6_at {ops : Array Oper} (ho : ops = R_chg6) (p : Nat) (B : Nat) (q : Nat) (dep : Int) (X : (Int) → Bool → World → Prop)  (M3 : ∀ (x : (Int)) (w : World), X x false w → w.cell? ⟨B, 15, none⟩ = some (.int .i64 dep)) (C1 : ∀ (x : (Int)) (w : World), X x false w → Calls Tryz.prog 33 #[.pointer (some ⟨p, 0, none⟩)] w fun e w' => e = .returned (.pointer (some ⟨q, 0, none⟩)) ∧ X x false w') (C4 : ∀ (x : (Int)) (w : World), X x false w → Calls Tryz.prog 58 #[.pointer (some ⟨q, 0, none⟩), .int .i64 dep] w fun e w' => ∃ y : Int, e = .returned (.int .i64 y) ∧ X y true w') (t0 : Array Value) (hz : t0.size = 36) (ht0 : t0[0]? = some (.pointer (some ⟨p, 0, none⟩))) (ht5 : t0[5]? = some (.pointer (some ⟨B, 0, none⟩))) {id : Nat} {Q : Exit → Act → World → Prop} {w : World} (x0 : (Int)) (start : X x0 false w.drew) (fin : ∀ x w', X x true w' → Q .normal ⟨puts ((lay_chg6 p B q dep) x) t0, []⟩ w') : (Code.region id ops true).wp Tryz.prog Q ⟨t0, []⟩ w := by
  subst ho
  have F : Flows (X := (Int)) R_chg6 (lay_chg6 p B q dep) [(0, .pointer (some ⟨p, 0, none⟩)), (5, .pointer (some ⟨B, 0, none⟩))] t0 9 := Flows.of (by kernel_rfl) hz (fun _ => by kernel_rfl) (.cons ht0 (.cons ht5 .nil))
  refine wp_flow (Wd := (fun x L => X x (L 4))) F rfl x0 start (fun i hi => ?_) (fun x L w' hl hw => fin x w' ?_)
  · rw [chg6_size] at hi
    match i, hi with
    | 0, _ => exact stepP F rfl (fun _ => rfl) (fun _ _ => by kernel_rfl) (fun _ => rfl) (fun _ _ _ h => h)
    | 1, _ => exact stepC 33 (fun _ => #[.pointer (some ⟨p, 0, none⟩)]) F rfl (fun _ => rfl) (fun _ => rfl) (fun _ _ => by kernel_rfl) (fun x L w z1 z2 z3 h => by
      have h : X x (L 4) w := h
      have e4 := fls z3 9 4 (by kernel_rfl)
      simp only [e4] at h ⊢
      exact C1 x  w h)
    | 2, _ => exact stepP F rfl (fun _ => rfl) (fun _ _ => by kernel_rfl) (fun _ => rfl) (fun _ _ _ h => h)
    | 3, _ => exact stepL (fun _ => ⟨B, 15, none⟩) F rfl (fun _ => rfl) (fun _ => rfl) rfl (fun _ => rfl) Tryz.underlying3 rfl (fun x L w z1 z2 z3 h => by
      have h : X x (L 4) w := h
      have e4 := fls z3 9 4 (by kernel_rfl)
      simp only [e4] at h ⊢
      exact ⟨M3 x  w h, h⟩)
    | 4, _ => exact stepY 58 (fun _ => #[.pointer (some ⟨q, 0, none⟩), .int .i64 dep]) F rfl (fun _ => rfl) (fun _ => rfl) (fun _ _ => by kernel_rfl) (fun x L w z1 z2 z3 h => by
      have h : X x (L 4) w := h
      have e4 : L 4 = false := z1
      simp only [e4] at h ⊢
      exact (C4 x  w h).mono fun e w' ⟨y, he, hx⟩ => ⟨y, he, but_all (D := [4]) (desc 9 z1 z3 (by kernel_rfl)) rfl, hx⟩)
    | n + 5, h => exact absurd h (by omega)
  · have hw : X x (L 4) w' := hw
    rw [hl 4 (by rw [chg6_size]; omega)] at hw
    exact hw
end Go.Proofs.YtdgphoemjeakaaaGreatDoor.Y
