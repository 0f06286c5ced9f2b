/- PickLeast. -/
import Derived.Test.YtnlfocmmnjgmpaaPn
import Derived.Test.YtnlfocmmnjgmpaaPq
namespace Go.Proofs.Ytnlfocmmnjgmpaa.Pl
open Go.RowKit Go.Proofs.Ytnlfocmmnjgmpaa.Fl Go.Proofs.Ytnlfocmmnjgmpaa.L Go.Proofs.Ytnlfocmmnjgmpaa.P Go.Proofs.Ytnlfocmmnjgmpaa.In1 Go.Proofs.Ytnlfocmmnjgmpaa.Pq

theorem quiet_left {P : Program} {f : FuncId} {args : Array Value} {w : World} {n : Nat} {v : Value}
    (h : Calls P f args (w.drewN n) fun e w' => e = .returned v ∧ w.drewN n = w') : Calls P f args (w.drewN n) fun e w'' => e = .returned v ∧ ∃ m, w'' = w.drewN m :=
  h.mono fun _ _ ⟨he, hm⟩ => ⟨he, n, hm.symm⟩

/-- What holds ahead of each round of the first loop. -/
structure Rel (B : Nat) (w : World) (n : Nat) (l : List (Int × Int)) (z : Value) (wr : World) : Prop where
  len : l.length ≤ n
  most : l.length ≤ 30
  own : wr.ownsRow B 23 1 z l.length (l.map cv)
  below : Below B w wr

/-- The cells of the row. -/
theorem cells {w : World} {B g cap : Nat} {l : List (Int × Int)} (h : w.ownsRow B 23 1 (.slice (some ⟨g, 0, none⟩) l.length cap) l.length (l.map cv)) (k : Nat) (hk : k < l.length) :
    w.cell? ⟨g, k, none⟩ = some (.complex .f64 ((l.map zb).getD k (0, 0)).1 ((l.map zb).getD k (0, 0)).2) := by
  have := h.cellAt k (by omega)
  rw [this]
  simp [List.getD, hk, cv, zb]

theorem calls_spare {B : Nat} {w : World} {m : Int} {n : Nat} {l : List (Int × Int)} {z : Value} {wr : World} (R : Rel B w n l z wr) (W : World) (hb : Below wr.heap.size wr W) :
    Calls Try.prog 31 #[z, .int .i64 m] W fun e w' => e = .returned (.int .i64 (spareTo (l.map zb) m l.length)) ∧ W = w' := by
  have := R.most
  have h := spare_any z (l.map zb) m W (by simp; omega) (cx_of_own (ownsRow_below R.own hb))
  rwa [List.length_map] at h
theorem calls_least {B : Nat} {w : World} {m : Int} {n : Nat} {l : List (Int × Int)} {z : Value} {wr : World} (R : Rel B w n l z wr) (W : World) (hb : Below wr.heap.size wr W) :
    Calls Try.prog 29 #[z, .int .i64 m] W fun e w' => e = .returned (.int .i64 (leastTo (l.map zb) m l.length)) ∧ W = w' := by
  have := R.most
  have h := least_any z (l.map zb) m W (by simp; omega) (cx_of_own (ownsRow_below R.own hb))
  rwa [List.length_map] at h
theorem calls_first {B : Nat} {w : World} {m : Int} {n : Nat} {l : List (Int × Int)} {z : Value} {wr : World} (R : Rel B w n l z wr) (W : World) (hb : Below wr.heap.size wr W) :
    Calls Try.prog 30 #[z, .int .i64 m] W fun e w' => e = .returned (.int .i64 (firstFrom (l.map zb) m 0 l.length)) ∧ W = w' := by
  have := R.most
  have h := first_any z (l.map zb) m W (by simp; omega) (cx_of_own (ownsRow_below R.own hb))
  unfold firstOf at h
  rwa [List.length_map] at h

set_option maxRecDepth 100000 in
set_option maxHeartbeats 4000000 in
theorem walk (a0 : Option Addr) (len0 cap0 : Nat) (z0 : List Int) (lim : Int) (w : World) (_m0 : len0 ≤ 9223372036854775807) (w0 : ∀ j, j < len0 → ∃ b off, a0 = some ⟨b, off, none⟩ ∧ w.cell? ⟨b, off + j, none⟩ = some (.int .i64 (z0.getD j 0))) :
    Calls Try.prog 8 #[.slice a0 len0 cap0, .int .i64 lim] w fun e w' => e = .returned (.bool true) ∧ Below w.heap.size w w' := by
  obtain ⟨i0, hi, hz0, hz1, hz2⟩ := info_parts info23
  have W0 := Lib.hid w0
  clear w0
  obtain ⟨m, hm0, hm1, hM⟩ := umod lim 7 (by omega) (by omega)
  go_enter Try.func8, Try.ntmps8
  go_wp2_with fail
  simp only [hM]
  clear hM
  go_loopw [6, 7] (fun z i wr => ∃ l : List (Int × Int), Rel w.heap.size w len0 l z wr ∧ i = .int .i64 (l.length : Nat)) (fun _ i _ => len0 - (intOf i).toNat)
  case atStart => exact ⟨[], ⟨Nat.zero_le _, by simp, World.ownsRow_nil _ _ _ _, Below.refl _ _⟩, rfl⟩
  case round =>
    obtain ⟨l, R, rfl⟩ := hrel
    have hsz := R.below.size
    by_cases hx : l.length < len0 ∧ l.length < 30
    · obtain ⟨hn, h40⟩ := hx
      obtain ⟨b, off, rfl, hc⟩ := W0.out _ hn
      have hc' := cell_later R.below hc
      have hbw := World.block_lt_of_cell? w _ hc
      have ag : u6.ownBlock ≠ some b := fun e => by have := R.own.lt b e; simp at hbw; omega
      have hbr : b < wr.heap.size := by simp at hbw; omega
      clear hc
      generalize z0.getD l.length 0 = q at hc'
      have j0 : (0 : Int) ≤ (l.length : Int) := Int.natCast_nonneg _
      have j1 : (l.length : Int) < (len0 : Int) := by omega
      go_wp2_with fail
      go_region_held3 (fun w' => w'.cell? ⟨b, off + l.length, none⟩ = some (.int .i64 q)) (first | go_keep | (rw [hgrow.cell_far _ (by simp; omega) (Ne.symm ag)]; assumption))
          (first | (go_at_call 19; refine (of_any _ _ _).mono ?_; rintro e w' ⟨rfl, rfl⟩) | ((refine step_append_lies _ (by rfl) _ _ _ (by rfl) w.heap.size 23 i0 _ 1 16 Pn.underlying33 hi hz0 hz1 hz2 rfl (by omega) u6 l.length (l.map cv) (by rfl) ((R.own.alloc _).drew) ⟨wr.heap.size, 0, none⟩ 1 1 [.complex .f64 _ _] (by rfl) (by rfl) (World.news_of_block (cs := #[.complex .f64 _ _]) (t := 23) (fr := (0, 0)) (heap_alloc_new wr _)) (by simp [Value.oneCell']) (by omega) (by unfold maxLen; omega) (by omega) (by simp; omega) (wr.heap.size + 1) (by simp) ?_; intro gg cap w1 hown1 hgrow hat hlt)))
      generalize cut (IntKind.i64.wrap ((IntKind.u64.wrap q).tmod 6)) = p1 at *
      generalize cut (IntKind.i64.wrap ((IntKind.u64.wrap ((IntKind.u64.wrap q).tdiv 6)).tmod 6)) = p2 at *
      have R' : Rel w.heap.size w len0 (l ++ [(p1, p2)]) (.slice (some ⟨gg, 0, none⟩) (l.length + 1) cap) w1 := by
        refine ⟨by simp; omega, by simp; omega, by simpa [cv] using hown1, ?_⟩
        refine ((R.below.alloc hsz _).drew).grown hgrow (by simp; omega) ?_
        intro k hk; exact (R.own.lt k hk).1
      have LR := Lib.hid R'
      clear R' hgrow hown1 hat
      go_wp2
      go_roundw
      case rel => exact ⟨l ++ [(p1, p2)], LR.out, by simp⟩
      case measure => simp [intOf]; omega
    · by_cases hn : l.length < len0
      · have h4 : decide ((l.length : Int) < 30) = false := decide_eq_false (by omega)
        have hR := R.below
        have T0 := Lib.hid fun W hb => calls_least (m := m) R W hb
        have T1 := Lib.hid fun W hb => calls_first (m := m) R W hb
        have T2 := Lib.hid fun W hb => calls_spare (m := m) R W hb
        have hmost := R.most
        rcases R.own.2 with ⟨rfl, hl0⟩ | ⟨g, cap, cur, rfl, _⟩
        · have hl := List.length_eq_zero_iff.1 hl0
          rw [show leastTo (l.map zb) m l.length = -1 from by rw [hl]; rfl] at T0
          rw [show firstFrom (l.map zb) m 0 l.length = -1 from by rw [hl]; rfl] at T1
          rw [show spareTo (l.map zb) m l.length = 0 from by rw [hl]; rfl] at T2
          clear hl hl0
          go_wp2_with (first | (go_at_call 29; ((with_reducible refine (T0.out _ (Below.refl _ _)).mono ?_); rintro e w' ⟨rfl, rfl⟩)) | (go_at_call 30; ((with_reducible refine (T1.out _ (Below.refl _ _)).mono ?_); rintro e w' ⟨rfl, rfl⟩)))
          go_loop [10, 11] (fun r i => i = .int .i64 0 ∧ r = .int .i64 0) (fun _ _ => 0)
          case atStart => exact ⟨rfl, rfl⟩
          case round =>
            obtain ⟨rfl, rfl⟩ := hrel
            go_wp2_with (first | (go_at_call 28; refine (P.told_any _).mono ?_; rintro e wt ⟨rfl, hbt⟩) | (go_at_call 31; ((with_reducible refine (T2.out _ hbt).mono ?_); rintro e w' ⟨rfl, rfl⟩)))
            go_ret
            exact ⟨rfl, hR.trans (hbt.mono hsz)⟩
        · have CC := Lib.hid (cells R.own)
          have hg := R.own.lt g rfl
          obtain ⟨hg1, hg2⟩ := hg
          have hin : 0 ≤ m ∧ m ≤ 1099511627776 := ⟨by omega, by omega⟩
          obtain ⟨sp0, sp1, sp2⟩ := spare_spec (zs := l.map zb) hin l.length
          rcases least_spec (l.map zb) m l.length with ⟨hk, hno⟩ | ⟨k, hk, hkn, hkr, hks⟩
          · rcases first_spec (l.map zb) m l.length 0 with ⟨hf, hno'⟩ | ⟨f, hf, _, hfn, hfr, hfs⟩
            · rw [hk] at T0
              rw [hf] at T1
              rw [sp2 hno] at T2
              have SP := Lib.hid (sp2 hno)
              have HNO := Lib.hid hno
              clear hk hf hno hno' sp0 sp1 sp2
              go_wp2_with (first | (go_at_call 29; ((with_reducible refine (T0.out _ (Below.refl _ _)).mono ?_); rintro e w' ⟨rfl, rfl⟩)) | (go_at_call 30; ((with_reducible refine (T1.out _ (Below.refl _ _)).mono ?_); rintro e w' ⟨rfl, rfl⟩)))
              go_loopw [10, 11] (fun r i w2 => ∃ j : Nat, j ≤ l.length ∧ i = .int .i64 j ∧ r = .int .i64 (spareTo (l.map zb) m j) ∧ Below wr.heap.size wr w2) (fun _ i _ => l.length - (intOf i).toNat)
              case atStart => exact ⟨0, Nat.zero_le _, rfl, rfl, Below.refl _ _⟩
              case round =>
                obtain ⟨j, hj, rfl, rfl, hb⟩ := hrel
                by_cases hlt : j < l.length
                · have hcj := (hb.cell (p := ⟨g, j, none⟩) hg2).trans (CC.out j hlt)
                  have hnr := HNO.out j hlt
                  have SF := Lib.hid (spare_full hin hnr)
                  unfold Room at hnr
                  generalize (l.map zb).getD j (0, 0) = z at hcj hnr
                  generalize spareTo (l.map zb) m j = s at *
                  go_wp2_with (go_at_call 23; refine (busy_any _ _ _).mono ?_; rintro e w' ⟨rfl, rfl⟩)
                  go_roundw
                  case rel => exact ⟨j + 1, by omega, by go_num, by rw [SF.out], hb⟩
                  case measure => simp [intOf]; omega
                · obtain rfl : j = l.length := by omega
                  simp only [SP.out]
                  go_wp2_with (first | (go_at_call 28; refine (P.told_any _).mono ?_; rintro e wt ⟨rfl, hbt⟩) | (go_at_call 31; ((with_reducible refine (T2.out _ (hb.trans (hbt.mono hb.size))).mono ?_); rintro e w' ⟨rfl, rfl⟩)))
                  go_ret
                  exact ⟨rfl, hR.trans ((hb.mono hsz).trans (hbt.mono (by have := hb.size; omega)))⟩
            · exact absurd hfr (hno f (by omega))
          · rcases first_spec (l.map zb) m l.length 0 with ⟨hf, hno'⟩ | ⟨f, hf, _, hfn, hfr, hfs⟩
            · exact absurd hkr (hno' k (by omega) (by omega))
            · rw [hk] at T0
              rw [hf] at T1
              have hpos : 0 < spareTo (l.map zb) m l.length := by
                rcases Int.lt_or_eq_of_le sp0 with h | h
                · exact h
                · exact absurd hkr (sp1 h.symm k hkn)
              have HKS := Lib.hid hks
              have HFS := Lib.hid hfs
              have HKR := Lib.hid hkr
              clear hk hf sp0 sp1 sp2 hks hfs hkr hfr
              have hck0 := CC.out k hkn
              go_wp2_with (first | (go_at_call 29; ((with_reducible refine (T0.out _ (Below.refl _ _)).mono ?_); rintro e w' ⟨rfl, rfl⟩)) | (go_at_call 30; ((with_reducible refine (T1.out _ (Below.refl _ _)).mono ?_); rintro e w' ⟨rfl, rfl⟩)))
              go_loopw [10, 11] (fun r i w2 => ∃ j : Nat, j ≤ l.length ∧ i = .int .i64 j ∧ r = .int .i64 (spareTo (l.map zb) m j) ∧ Below wr.heap.size wr w2) (fun _ i _ => l.length - (intOf i).toNat)
              case atStart => exact ⟨0, Nat.zero_le _, rfl, rfl, Below.refl _ _⟩
              case round =>
                obtain ⟨j, hj, rfl, rfl, hb⟩ := hrel
                by_cases hlt : j < l.length
                · have hcj := (hb.cell (p := ⟨g, j, none⟩) hg2).trans (CC.out j hlt)
                  by_cases hnr : Room (l.map zb) m j
                  · have hck := (hb.cell (p := ⟨g, k, none⟩) hg2).trans hck0
                    have SF := Lib.hid (spare_room hin hnr)
                    have hfj : decide (j < f) = false := decide_eq_false fun h => HFS.out j (by omega) h hnr
                    have hkl : decide (l.length ≤ k) = false := decide_eq_false (by omega)
                    have hk0 : decide ((k : Int) < 0) = false := decide_eq_false (by omega)
                    have hf0 : decide ((f : Int) < 0) = false := decide_eq_false (by omega)
                    have s1 := (spareTo_bd (l.map zb) m j).1
                    have s2 := (spareTo_bd (l.map zb) m j).2
                    have s3 : spareTo (l.map zb) m j ≤ 32985348833280 := by omega
                    clear s2
                    have L1 := Lib.hid fun W => less_any ((l.map zb).getD j (0, 0)).1 ((l.map zb).getD j (0, 0)).2 ((l.map zb).getD k (0, 0)).1 ((l.map zb).getD k (0, 0)).2 W
                    rw [show less ((l.map zb).getD j (0, 0)).1 ((l.map zb).getD j (0, 0)).2 ((l.map zb).getD k (0, 0)).1 ((l.map zb).getD k (0, 0)).2 = false from (HKS.out j hlt hnr).1] at L1
                    have W0' := whole_bd ((l.map zb).getD j (0, 0)).1
                    by_cases hjk : j < k
                    · have L2 := Lib.hid fun W => less_any ((l.map zb).getD k (0, 0)).1 ((l.map zb).getD k (0, 0)).2 ((l.map zb).getD j (0, 0)).1 ((l.map zb).getD j (0, 0)).2 W
                      rw [show less ((l.map zb).getD k (0, 0)).1 ((l.map zb).getD k (0, 0)).2 ((l.map zb).getD j (0, 0)).1 ((l.map zb).getD j (0, 0)).2 = true from (HKS.out j hlt hnr).2 hjk] at L2
                      have hjk' : decide (j < k) = true := decide_eq_true hjk
                      unfold Room at hnr
                      generalize (l.map zb).getD j (0, 0) = z at *
                      generalize (l.map zb).getD k (0, 0) = z' at *
                      generalize spareTo (l.map zb) m j = s at *
                      obtain ⟨W1, W2⟩ := W0'
                      have q0 : (0 : Int) ≤ (j : Int) := Int.natCast_nonneg _
                      have q1 : (j : Int) < (l.length : Int) := by omega
                      have q2 : (0 : Int) ≤ (k : Int) := Int.natCast_nonneg _
                      have q3 : (k : Int) < (l.length : Int) := by omega
                      go_wp2_with (go_at_call 23; refine (busy_any _ _ _).mono ?_; rintro e w' ⟨rfl, rfl⟩)
                      go_quiet ((go_at_call 26; first | (with_reducible exact quiet_left (L1.out _)) | (with_reducible exact quiet_left (L2.out _))))
                      go_wp2
                      go_roundw
                      case rel => exact ⟨j + 1, by omega, by go_num, by rw [SF.out]; go_num, below_drewN hb _⟩
                      case measure => simp [intOf]; omega
                    · have hjk' : decide (j < k) = false := decide_eq_false hjk
                      unfold Room at hnr
                      generalize (l.map zb).getD j (0, 0) = z at *
                      generalize (l.map zb).getD k (0, 0) = z' at *
                      generalize spareTo (l.map zb) m j = s at *
                      obtain ⟨W1, W2⟩ := W0'
                      have q0 : (0 : Int) ≤ (j : Int) := Int.natCast_nonneg _
                      have q1 : (j : Int) < (l.length : Int) := by omega
                      have q2 : (0 : Int) ≤ (k : Int) := Int.natCast_nonneg _
                      have q3 : (k : Int) < (l.length : Int) := by omega
                      go_wp2_with (go_at_call 23; refine (busy_any _ _ _).mono ?_; rintro e w' ⟨rfl, rfl⟩)
                      go_quiet ((go_at_call 26; (with_reducible exact quiet_left (L1.out _))))
                      go_wp2
                      go_roundw
                      case rel => exact ⟨j + 1, by omega, by go_num, by rw [SF.out]; go_num, below_drewN hb _⟩
                      case measure => simp [intOf]; omega
                  · have SF := Lib.hid (spare_full hin hnr)
                    unfold Room at hnr
                    generalize (l.map zb).getD j (0, 0) = z at hcj hnr
                    generalize spareTo (l.map zb) m j = s at *
                    go_wp2_with (go_at_call 23; refine (busy_any _ _ _).mono ?_; rintro e w' ⟨rfl, rfl⟩)
                    go_roundw
                    case rel => exact ⟨j + 1, by omega, by go_num, by rw [SF.out], hb⟩
                    case measure => simp [intOf]; omega
                · obtain rfl : j = l.length := by omega
                  have hkr := HKR.out
                  unfold Room at hkr
                  generalize (l.map zb).getD k (0, 0) = z' at *
                  generalize spareTo (l.map zb) m l.length = s at *
                  have hs0 : (s == 0) = false := beq_eq_false_iff_ne.2 (by omega)
                  have hkl : decide (k < l.length) = true := decide_eq_true (by omega)
                  have hckt := Lib.hid fun (wt : World) (hbt : Below wr.heap.size wr wt) => ((hb.trans (hbt.mono hb.size)).cell (p := ⟨g, k, none⟩) hg2).trans hck0
                  go_wp2_with (first | (go_at_call 28; refine (P.told_any _).mono ?_; rintro e wt ⟨rfl, hbt⟩) | (go_at_call 31; ((with_reducible refine (T2.out _ (hb.trans (hbt.mono hb.size))).mono ?_); rintro e w' ⟨rfl, rfl⟩; have hckt' := hckt.out _ hbt)) | (go_at_call 23; refine (busy_any _ _ _).mono ?_; rintro e w' ⟨rfl, rfl⟩))
                  go_ret
                  exact ⟨rfl, hR.trans ((hb.mono hsz).trans (hbt.mono (by have := hb.size; omega)))⟩
      · have hR := R.below
        have T0 := Lib.hid fun W hb => calls_least (m := m) R W hb
        have T1 := Lib.hid fun W hb => calls_first (m := m) R W hb
        have T2 := Lib.hid fun W hb => calls_spare (m := m) R W hb
        have hmost := R.most
        rcases R.own.2 with ⟨rfl, hl0⟩ | ⟨g, cap, cur, rfl, _⟩
        · have hl := List.length_eq_zero_iff.1 hl0
          rw [show leastTo (l.map zb) m l.length = -1 from by rw [hl]; rfl] at T0
          rw [show firstFrom (l.map zb) m 0 l.length = -1 from by rw [hl]; rfl] at T1
          rw [show spareTo (l.map zb) m l.length = 0 from by rw [hl]; rfl] at T2
          clear hl hl0
          go_wp2_with (first | (go_at_call 29; ((with_reducible refine (T0.out _ (Below.refl _ _)).mono ?_); rintro e w' ⟨rfl, rfl⟩)) | (go_at_call 30; ((with_reducible refine (T1.out _ (Below.refl _ _)).mono ?_); rintro e w' ⟨rfl, rfl⟩)))
          go_loop [10, 11] (fun r i => i = .int .i64 0 ∧ r = .int .i64 0) (fun _ _ => 0)
          case atStart => exact ⟨rfl, rfl⟩
          case round =>
            obtain ⟨rfl, rfl⟩ := hrel
            go_wp2_with (first | (go_at_call 28; refine (P.told_any _).mono ?_; rintro e wt ⟨rfl, hbt⟩) | (go_at_call 31; ((with_reducible refine (T2.out _ hbt).mono ?_); rintro e w' ⟨rfl, rfl⟩)))
            go_ret
            exact ⟨rfl, hR.trans (hbt.mono hsz)⟩
        · have CC := Lib.hid (cells R.own)
          have hg := R.own.lt g rfl
          obtain ⟨hg1, hg2⟩ := hg
          have hin : 0 ≤ m ∧ m ≤ 1099511627776 := ⟨by omega, by omega⟩
          obtain ⟨sp0, sp1, sp2⟩ := spare_spec (zs := l.map zb) hin l.length
          rcases least_spec (l.map zb) m l.length with ⟨hk, hno⟩ | ⟨k, hk, hkn, hkr, hks⟩
          · rcases first_spec (l.map zb) m l.length 0 with ⟨hf, hno'⟩ | ⟨f, hf, _, hfn, hfr, hfs⟩
            · rw [hk] at T0
              rw [hf] at T1
              rw [sp2 hno] at T2
              have SP := Lib.hid (sp2 hno)
              have HNO := Lib.hid hno
              clear hk hf hno hno' sp0 sp1 sp2
              go_wp2_with (first | (go_at_call 29; ((with_reducible refine (T0.out _ (Below.refl _ _)).mono ?_); rintro e w' ⟨rfl, rfl⟩)) | (go_at_call 30; ((with_reducible refine (T1.out _ (Below.refl _ _)).mono ?_); rintro e w' ⟨rfl, rfl⟩)))
              go_loopw [10, 11] (fun r i w2 => ∃ j : Nat, j ≤ l.length ∧ i = .int .i64 j ∧ r = .int .i64 (spareTo (l.map zb) m j) ∧ Below wr.heap.size wr w2) (fun _ i _ => l.length - (intOf i).toNat)
              case atStart => exact ⟨0, Nat.zero_le _, rfl, rfl, Below.refl _ _⟩
              case round =>
                obtain ⟨j, hj, rfl, rfl, hb⟩ := hrel
                by_cases hlt : j < l.length
                · have hcj := (hb.cell (p := ⟨g, j, none⟩) hg2).trans (CC.out j hlt)
                  have hnr := HNO.out j hlt
                  have SF := Lib.hid (spare_full hin hnr)
                  unfold Room at hnr
                  generalize (l.map zb).getD j (0, 0) = z at hcj hnr
                  generalize spareTo (l.map zb) m j = s at *
                  go_wp2_with (go_at_call 23; refine (busy_any _ _ _).mono ?_; rintro e w' ⟨rfl, rfl⟩)
                  go_roundw
                  case rel => exact ⟨j + 1, by omega, by go_num, by rw [SF.out], hb⟩
                  case measure => simp [intOf]; omega
                · obtain rfl : j = l.length := by omega
                  simp only [SP.out]
                  go_wp2_with (first | (go_at_call 28; refine (P.told_any _).mono ?_; rintro e wt ⟨rfl, hbt⟩) | (go_at_call 31; ((with_reducible refine (T2.out _ (hb.trans (hbt.mono hb.size))).mono ?_); rintro e w' ⟨rfl, rfl⟩)))
                  go_ret
                  exact ⟨rfl, hR.trans ((hb.mono hsz).trans (hbt.mono (by have := hb.size; omega)))⟩
            · exact absurd hfr (hno f (by omega))
          · rcases first_spec (l.map zb) m l.length 0 with ⟨hf, hno'⟩ | ⟨f, hf, _, hfn, hfr, hfs⟩
            · exact absurd hkr (hno' k (by omega) (by omega))
            · rw [hk] at T0
              rw [hf] at T1
              have hpos : 0 < spareTo (l.map zb) m l.length := by
                rcases Int.lt_or_eq_of_le sp0 with h | h
                · exact h
                · exact absurd hkr (sp1 h.symm k hkn)
              have HKS := Lib.hid hks
              have HFS := Lib.hid hfs
              have HKR := Lib.hid hkr
              clear hk hf sp0 sp1 sp2 hks hfs hkr hfr
              have hck0 := CC.out k hkn
              go_wp2_with (first | (go_at_call 29; ((with_reducible refine (T0.out _ (Below.refl _ _)).mono ?_); rintro e w' ⟨rfl, rfl⟩)) | (go_at_call 30; ((with_reducible refine (T1.out _ (Below.refl _ _)).mono ?_); rintro e w' ⟨rfl, rfl⟩)))
              go_loopw [10, 11] (fun r i w2 => ∃ j : Nat, j ≤ l.length ∧ i = .int .i64 j ∧ r = .int .i64 (spareTo (l.map zb) m j) ∧ Below wr.heap.size wr w2) (fun _ i _ => l.length - (intOf i).toNat)
              case atStart => exact ⟨0, Nat.zero_le _, rfl, rfl, Below.refl _ _⟩
              case round =>
                obtain ⟨j, hj, rfl, rfl, hb⟩ := hrel
                by_cases hlt : j < l.length
                · have hcj := (hb.cell (p := ⟨g, j, none⟩) hg2).trans (CC.out j hlt)
                  by_cases hnr : Room (l.map zb) m j
                  · have hck := (hb.cell (p := ⟨g, k, none⟩) hg2).trans hck0
                    have SF := Lib.hid (spare_room hin hnr)
                    have hfj : decide (j < f) = false := decide_eq_false fun h => HFS.out j (by omega) h hnr
                    have hkl : decide (l.length ≤ k) = false := decide_eq_false (by omega)
                    have hk0 : decide ((k : Int) < 0) = false := decide_eq_false (by omega)
                    have hf0 : decide ((f : Int) < 0) = false := decide_eq_false (by omega)
                    have s1 := (spareTo_bd (l.map zb) m j).1
                    have s2 := (spareTo_bd (l.map zb) m j).2
                    have s3 : spareTo (l.map zb) m j ≤ 32985348833280 := by omega
                    clear s2
                    have L1 := Lib.hid fun W => less_any ((l.map zb).getD j (0, 0)).1 ((l.map zb).getD j (0, 0)).2 ((l.map zb).getD k (0, 0)).1 ((l.map zb).getD k (0, 0)).2 W
                    rw [show less ((l.map zb).getD j (0, 0)).1 ((l.map zb).getD j (0, 0)).2 ((l.map zb).getD k (0, 0)).1 ((l.map zb).getD k (0, 0)).2 = false from (HKS.out j hlt hnr).1] at L1
                    have W0' := whole_bd ((l.map zb).getD j (0, 0)).1
                    by_cases hjk : j < k
                    · have L2 := Lib.hid fun W => less_any ((l.map zb).getD k (0, 0)).1 ((l.map zb).getD k (0, 0)).2 ((l.map zb).getD j (0, 0)).1 ((l.map zb).getD j (0, 0)).2 W
                      rw [show less ((l.map zb).getD k (0, 0)).1 ((l.map zb).getD k (0, 0)).2 ((l.map zb).getD j (0, 0)).1 ((l.map zb).getD j (0, 0)).2 = true from (HKS.out j hlt hnr).2 hjk] at L2
                      have hjk' : decide (j < k) = true := decide_eq_true hjk
                      unfold Room at hnr
                      generalize (l.map zb).getD j (0, 0) = z at *
                      generalize (l.map zb).getD k (0, 0) = z' at *
                      generalize spareTo (l.map zb) m j = s at *
                      obtain ⟨W1, W2⟩ := W0'
                      have q0 : (0 : Int) ≤ (j : Int) := Int.natCast_nonneg _
                      have q1 : (j : Int) < (l.length : Int) := by omega
                      have q2 : (0 : Int) ≤ (k : Int) := Int.natCast_nonneg _
                      have q3 : (k : Int) < (l.length : Int) := by omega
                      go_wp2_with (go_at_call 23; refine (busy_any _ _ _).mono ?_; rintro e w' ⟨rfl, rfl⟩)
                      go_quiet ((go_at_call 26; first | (with_reducible exact quiet_left (L1.out _)) | (with_reducible exact quiet_left (L2.out _))))
                      go_wp2
                      go_roundw
                      case rel => exact ⟨j + 1, by omega, by go_num, by rw [SF.out]; go_num, below_drewN hb _⟩
                      case measure => simp [intOf]; omega
                    · have hjk' : decide (j < k) = false := decide_eq_false hjk
                      unfold Room at hnr
                      generalize (l.map zb).getD j (0, 0) = z at *
                      generalize (l.map zb).getD k (0, 0) = z' at *
                      generalize spareTo (l.map zb) m j = s at *
                      obtain ⟨W1, W2⟩ := W0'
                      have q0 : (0 : Int) ≤ (j : Int) := Int.natCast_nonneg _
                      have q1 : (j : Int) < (l.length : Int) := by omega
                      have q2 : (0 : Int) ≤ (k : Int) := Int.natCast_nonneg _
                      have q3 : (k : Int) < (l.length : Int) := by omega
                      go_wp2_with (go_at_call 23; refine (busy_any _ _ _).mono ?_; rintro e w' ⟨rfl, rfl⟩)
                      go_quiet ((go_at_call 26; (with_reducible exact quiet_left (L1.out _))))
                      go_wp2
                      go_roundw
                      case rel => exact ⟨j + 1, by omega, by go_num, by rw [SF.out]; go_num, below_drewN hb _⟩
                      case measure => simp [intOf]; omega
                  · have SF := Lib.hid (spare_full hin hnr)
                    unfold Room at hnr
                    generalize (l.map zb).getD j (0, 0) = z at hcj hnr
                    generalize spareTo (l.map zb) m j = s at *
                    go_wp2_with (go_at_call 23; refine (busy_any _ _ _).mono ?_; rintro e w' ⟨rfl, rfl⟩)
                    go_roundw
                    case rel => exact ⟨j + 1, by omega, by go_num, by rw [SF.out], hb⟩
                    case measure => simp [intOf]; omega
                · obtain rfl : j = l.length := by omega
                  have hkr := HKR.out
                  unfold Room at hkr
                  generalize (l.map zb).getD k (0, 0) = z' at *
                  generalize spareTo (l.map zb) m l.length = s at *
                  have hs0 : (s == 0) = false := beq_eq_false_iff_ne.2 (by omega)
                  have hkl : decide (k < l.length) = true := decide_eq_true (by omega)
                  have hckt := Lib.hid fun (wt : World) (hbt : Below wr.heap.size wr wt) => ((hb.trans (hbt.mono hb.size)).cell (p := ⟨g, k, none⟩) hg2).trans hck0
                  go_wp2_with (first | (go_at_call 28; refine (P.told_any _).mono ?_; rintro e wt ⟨rfl, hbt⟩) | (go_at_call 31; ((with_reducible refine (T2.out _ (hb.trans (hbt.mono hb.size))).mono ?_); rintro e w' ⟨rfl, rfl⟩; have hckt' := hckt.out _ hbt)) | (go_at_call 23; refine (busy_any _ _ _).mono ?_; rintro e w' ⟨rfl, rfl⟩))
                  go_ret
                  exact ⟨rfl, hR.trans ((hb.mono hsz).trans (hbt.mono (by have := hb.size; omega)))⟩
end Go.Proofs.Ytnlfocmmnjgmpaa.Pl
