/- LoadSums. -/
import Derived.Test.YtnlfocmmnjgmpaaL2
import Derived.Test.YtnlfocmmnjgmpaaIn1
namespace Go.Proofs.Ytnlfocmmnjgmpaa.Su
open Go.RowKit Go.Proofs.Ytnlfocmmnjgmpaa.Fl Go.Proofs.Ytnlfocmmnjgmpaa.L Go.Proofs.Ytnlfocmmnjgmpaa.L2 Go.Proofs.Ytnlfocmmnjgmpaa.In1

def Ok (p : Int × Int) : Prop := 0 ≤ p.1 ∧ p.1 < 1000000 ∧ 0 ≤ p.2 ∧ p.2 < 1000000
def sx (l : List (Int × Int)) : Int := (l.map Prod.fst).sum
def sy (l : List (Int × Int)) : Int := (l.map Prod.snd).sum

/-- What holds ahead of each round, but for the numbers in the slots. -/
structure Rel (B : Nat) (w : World) (n : Nat) (l : List (Int × Int)) (a b : Value) (wr : World) : Prop where
  len : l.length ≤ n
  forty : l.length ≤ 40
  ok : ∀ p ∈ l, Ok p
  oa : wr.ownsRow B 23 1 a l.length (l.map cv)
  ob : wr.ownsRow B 23 1 b l.length (l.reverse.map cv)
  apart : ∀ k, a.ownBlock = some k → b.ownBlock ≠ some k
  below : Below B w wr

theorem sx_bd {l : List (Int × Int)} (h : ∀ p ∈ l, Ok p) (hl : l.length ≤ 40) : 0 ≤ sx l ∧ sx l ≤ 40000000 := by
  obtain ⟨_, b, c⟩ := sumOf_map Prod.fst Prod.fst l (fun _ => rfl) (fun p hp => ⟨(h p hp).1, (h p hp).2.1⟩) (by omega)
  exact ⟨b, by unfold sx; omega⟩
theorem sy_bd {l : List (Int × Int)} (h : ∀ p ∈ l, Ok p) (hl : l.length ≤ 40) : 0 ≤ sy l ∧ sy l ≤ 40000000 := by
  obtain ⟨_, b, c⟩ := sumOf_map Prod.snd Prod.snd l (fun _ => rfl) (fun p hp => ⟨(h p hp).2.2.1, (h p hp).2.2.2⟩) (by omega)
  exact ⟨b, by unfold sy; omega⟩
theorem sx_snoc (l : List (Int × Int)) (p : Int × Int) : sx (l ++ [p]) = sx l + p.1 := by unfold sx; simp
theorem sy_snoc (l : List (Int × Int)) (p : Int × Int) : sy (l ++ [p]) = sy l + p.2 := by unfold sy; simp
theorem sums {l : List (Int × Int)} (h : ∀ p ∈ l, Ok p) (hl : l.length ≤ 40) :
    sumOf Prod.fst (l.map zb) = sx l ∧ sumOf Prod.snd (l.map zb) = sy l ∧ sumOf Prod.fst (l.reverse.map zb) = sx l ∧ sumOf Prod.snd (l.reverse.map zb) = sy l := by
  have r : ∀ p ∈ l.reverse, Ok p := fun p hp => h p (by simpa using hp)
  refine ⟨(sumOf_map Prod.fst Prod.fst l (fun _ => rfl) (fun p hp => ⟨(h p hp).1, (h p hp).2.1⟩) (by omega)).1, (sumOf_map Prod.snd Prod.snd l (fun _ => rfl) (fun p hp => ⟨(h p hp).2.2.1, (h p hp).2.2.2⟩) (by omega)).1, ?_, ?_⟩
  · rw [(sumOf_map Prod.fst Prod.fst l.reverse (fun _ => rfl) (fun p hp => ⟨(r p hp).1, (r p hp).2.1⟩) (by simp; omega)).1, List.map_reverse, List.sum_reverse]; rfl
  · rw [(sumOf_map Prod.snd Prod.snd l.reverse (fun _ => rfl) (fun p hp => ⟨(r p hp).2.2.1, (r p hp).2.2.2⟩) (by simp; omega)).1, List.map_reverse, List.sum_reverse]; rfl

/-- One round's step on what is owned. -/
theorem step {B : Nat} {w : World} {n : Nat} {l : List (Int × Int)} {a b : Value} {wr : World} (h : Rel B w n l a b wr) {p : Int × Int} (hp : Ok p) (hn : l.length < n) (h40 : l.length < 40) (hB : B ≤ wr.heap.size)
    {a' : Value} {w1 : World} (oa : w1.ownsRow B 23 1 a' (l.length + 1) (l.map cv ++ [cv p])) (ga : (wr.alloc (.cells #[cv p] 23)).grownBy w1 a.ownBlock)
    {b' : Value} {w2 : World} (ob : w2.ownsRow w1.heap.size 23 1 b' (1 + l.length) ([cv p] ++ l.reverse.map cv)) (gb : (w1.alloc (.cells #[cv p] 23)).grownBy w2 (some w1.heap.size)) :
    Rel B w n (l ++ [p]) a' b' w2 := by
  have sz : wr.heap.size + 1 ≤ w1.heap.size := by have := ga.size; simpa using this
  have la := oa.lt
  have lb := ob.lt
  refine ⟨by simp; omega, by simp; omega, ?_, ?_, ?_, ?_, ?_⟩
  · intro q hq
    simp only [List.mem_append, List.mem_singleton] at hq
    rcases hq with hq | rfl
    · exact h.ok q hq
    · exact hp
  · have k := (oa.alloc (.cells #[cv p] 23)).kept gb (by
      by_cases e : a'.ownBlock = none
      · exact .inl e
      · refine .inr fun e' => ?_
        have := la _ e'
        omega)
    simpa using k
  · have := ownsRow_mono ob (show B ≤ w1.heap.size by omega)
    simpa [Nat.add_comm] using this
  · intro k hk hk'
    have := la k hk
    have := lb k hk'
    omega
  · refine (((h.below.alloc hB _).grown ga (by simp; omega) ?_).alloc (by omega) _).grown gb (by simp; omega) ?_
    · intro k hk; exact (h.oa.lt k hk).1
    · intro k hk; simp only [Option.some.injEq] at hk; omega

theorem underlying33 : Try.prog.underlying 33 = some (.slice 23) := by kernel_rfl

def Elems (w : World) (a : Option Addr) (len : Nat) (zs : List Int) : Prop := ∀ j, j < len → ∃ b off, a = some ⟨b, off, none⟩ ∧ w.cell? ⟨b, off + j, none⟩ = some (.int .i64 (zs.getD j 0))

theorem elems_of {w : World} {a : Option Addr} {len cap : Nat} {zs : List Int} (h : IsRow .i64 w a len cap zs) : Elems w a len zs := by
  intro j hj
  rcases h.at'.2 with ⟨_, h0⟩ | ⟨b, off, h1, h2⟩
  · omega
  · exact ⟨b, off, h1 (by omega), h2 j hj⟩

set_option maxHeartbeats 2000000 in
theorem walk (a0 : Option Addr) (len0 cap0 : Nat) (z0 : List Int) (a1 : Option Addr) (len1 cap1 : Nat) (z1 : List Int) (w : World) (_m0 : len0 ≤ 9223372036854775807) (_m1 : len1 ≤ 9223372036854775807) (w0 : Elems w a0 len0 z0) (w1 : Elems w a1 len1 z1) :
    Calls Try.prog 5 #[.slice a0 len0 cap0, .slice a1 len1 cap1] w fun e w' => e = .returned (.bool true) ∧ Below w.heap.size w w' := by
  obtain ⟨i0, hi, hz0, hz1, hz2⟩ := info_parts info23
  have W0 := Lib.hid w0
  have W1 := Lib.hid w1
  clear w0 w1
  go_enter Try.func5, Try.ntmps5
  go_wp2_with fail
  go_loopw [5, 6, 7, 8, 9] (fun a b x y i wr => ∃ l : List (Int × Int), Rel w.heap.size w len0 l a b wr ∧ x = .int .i64 (sx l) ∧ y = .int .i64 (sy l) ∧ i = .int .i64 (l.length : Nat)) (fun _ _ _ _ i _ => len0 - (intOf i).toNat)
  case atStart => exact ⟨[], ⟨Nat.zero_le _, by simp, by simp, World.ownsRow_nil _ _ _ _, World.ownsRow_nil _ _ _ _, by intro k hk; simp [Value.ownBlock] at hk, Below.refl _ _⟩, rfl, rfl, rfl⟩
  case round =>
    obtain ⟨l, R, rfl, rfl, rfl⟩ := hrel
    have bx := sx_bd R.ok R.forty
    have by' := sy_bd R.ok R.forty
    obtain ⟨bx1, bx2⟩ := bx
    obtain ⟨by1, by2⟩ := by'
    have S1 := Lib.hid (sum_any u5 (l.map zb) wr (by have := R.forty; simp; omega) (cx_of_own R.oa))
    have S2 := Lib.hid fun (wt : World) (hb : Below wr.heap.size wr wt) => sum_any u6 (l.reverse.map zb) wt (by have := R.forty; simp; omega) (cx_of_own (ownsRow_below (by simpa using R.ob) hb))
    obtain ⟨s1, s2, s3, s4⟩ := sums R.ok R.forty
    rw [s1, s2] at S1
    rw [s3, s4] at S2
    clear s1 s2 s3 s4
    have ix : In (sx l) := ⟨by omega, by omega⟩
    have iy : In (sy l) := ⟨by omega, by omega⟩
    by_cases hn : l.length < len0
    · by_cases h40 : l.length < 40
      · obtain ⟨b, off, rfl, hc⟩ := W0.out _ hn
        have hc' := cell_later R.below hc
        clear hc
        generalize z0.getD l.length 0 = q at hc'
        obtain ⟨n, n0, n1, hN⟩ := umod q 1000000 (by omega) (by omega)
        have hsz := R.below.size
        by_cases hm : l.length < len1
        · obtain ⟨c, o', rfl, hd⟩ := W1.out _ hm
          have hd' := cell_later R.below hd
          clear hd
          generalize z1.getD l.length 0 = q' at hd'
          obtain ⟨k, k0, k1, hK⟩ := umod q' 1000000 (by omega) (by omega)
          have inn : In n := ⟨by omega, by omega⟩
          have ink : In k := ⟨by omega, by omega⟩
          have hp : Ok (n, k) := ⟨n0, n1, k0, k1⟩
          have ob := R.ob
          rcases R.ob.2 with ⟨rfl, hl0⟩ | ⟨g, cap, cur, rfl, _⟩
          · have HL := Lib.hid (List.length_eq_zero_iff.1 hl0)
            clear hl0 ob
            go_wp2_with (first | (go_at_call 19; refine (of_in n k _ inn ink).mono ?_; rintro e w' ⟨rfl, rfl⟩) | (at_builtin; refine wpList_append_own_none rfl (Operand.tmp 56) (Operand.tmp 57) 33 rfl wa.heap.size 23 i0 1 underlying33 hi _ 1 [cv (n, k)] rfl (World.ownsRow_lit wa #[cv (n, k)] 1 (Nat.le_refl _) (by decide) rfl) rfl ?_) | (at_builtin; refine wpList_append_own _ rfl (Operand.tmp 51) (Operand.tmp 53) 33 rfl w.heap.size 23 i0 (.complex .f64 0 0) 1 16 underlying33 hi hz0 hz1 hz2 rfl (by decide) _ l.length (l.map cv) rfl (R.oa.alloc _) ⟨wr.heap.size, 0, none⟩ 1 1 [cv (n, k)] rfl rfl ?_ ?_ ?_ ?_ ?_ ?_; exact (cell_one_new _ _ _); exact (fun u hu => by simp only [List.mem_singleton] at hu; subst hu; rfl); exact (by unfold maxLen; omega); exact (by omega); exact (by simp; omega); intro va wa oa ga _))
            have obn : (wa.alloc (.cells #[cv (n, k)] 23)).ownsRow wa.heap.size 23 1 (.slice (some ⟨wa.heap.size, 0, none⟩) 1 1) (1 + l.length) ([cv (n, k)] ++ l.reverse.map cv) := by
              have h := World.ownsRow_lit (e := 23) (size := 1) wa #[cv (n, k)] 1 (Nat.le_refl _) (by decide) rfl
              rw [HL.out]; exact h
            have gb : (wa.alloc (.cells #[cv (n, k)] 23)).grownBy (wa.alloc (.cells #[cv (n, k)] 23)) (some wa.heap.size) := ⟨rfl, rfl, rfl, Nat.le_refl _, fun _ _ _ => rfl⟩
            go_roundw
            case rel => exact ⟨l ++ [(n, k)], step R hp hn h40 hsz oa ga obn gb, by simp [sx_snoc], by simp [sy_snoc], by simp⟩
            case measure => simp [intOf]; omega
          · have hne : (Value.slice (some ⟨g, 0, none⟩) l.length cap).ownBlock = none ∨ (Value.slice (some ⟨g, 0, none⟩) l.length cap).ownBlock ≠ u5.ownBlock := .inr fun e => R.apart g e.symm rfl
            go_wp2_with (first | (go_at_call 19; refine (of_in n k _ inn ink).mono ?_; rintro e w' ⟨rfl, rfl⟩) | (at_builtin; refine wpList_append_own _ rfl (Operand.tmp 56) (Operand.tmp 57) 33 rfl wa.heap.size 23 i0 (.complex .f64 0 0) 1 16 underlying33 hi hz0 hz1 hz2 rfl (by decide) _ 1 [cv (n, k)] rfl (World.ownsRow_lit wa #[cv (n, k)] 1 (Nat.le_refl _) (by decide) rfl) ⟨g, 0, none⟩ l.length cap (l.reverse.map cv) rfl (by simp) ?_ ?_ ?_ ?_ ?_ ?_; exact (World.ownsRow.cells (((ob.alloc _).kept ga hne).alloc _) rfl); exact (fun u hu => by simp only [List.mem_map] at hu; obtain ⟨x, _, rfl⟩ := hu; rfl); exact (by unfold maxLen; omega); exact (by omega); exact (by simp); intro vb wb obn gb _) | (at_builtin; refine wpList_append_own _ rfl (Operand.tmp 51) (Operand.tmp 53) 33 rfl w.heap.size 23 i0 (.complex .f64 0 0) 1 16 underlying33 hi hz0 hz1 hz2 rfl (by decide) _ l.length (l.map cv) rfl (R.oa.alloc _) ⟨wr.heap.size, 0, none⟩ 1 1 [cv (n, k)] rfl rfl ?_ ?_ ?_ ?_ ?_ ?_; exact (cell_one_new _ _ _); exact (fun u hu => by simp only [List.mem_singleton] at hu; subst hu; rfl); exact (by unfold maxLen; omega); exact (by omega); exact (by simp; omega); intro va wa oa ga _))
            go_roundw
            case rel => exact ⟨l ++ [(n, k)], step R hp hn h40 hsz oa ga obn gb, by simp [sx_snoc], by simp [sy_snoc], by simp⟩
            case measure => simp [intOf]; omega
        · obtain ⟨k, hk⟩ : ∃ k : Int, k = 0 := ⟨0, rfl⟩
          have k0 : 0 ≤ k := by omega
          have k1 : k < 1000000 := by omega
          subst hk
          have inn : In n := ⟨by omega, by omega⟩
          have ink : In 0 := ⟨by omega, by omega⟩
          have hp : Ok (n, 0) := ⟨n0, n1, k0, k1⟩
          have ob := R.ob
          rcases R.ob.2 with ⟨rfl, hl0⟩ | ⟨g, cap, cur, rfl, _⟩
          · have HL := Lib.hid (List.length_eq_zero_iff.1 hl0)
            clear hl0 ob
            go_wp2_with (first | (go_at_call 19; refine (of_in n 0 _ inn ink).mono ?_; rintro e w' ⟨rfl, rfl⟩) | (at_builtin; refine wpList_append_own_none rfl (Operand.tmp 56) (Operand.tmp 57) 33 rfl wa.heap.size 23 i0 1 underlying33 hi _ 1 [cv (n, 0)] rfl (World.ownsRow_lit wa #[cv (n, 0)] 1 (Nat.le_refl _) (by decide) rfl) rfl ?_) | (at_builtin; refine wpList_append_own _ rfl (Operand.tmp 51) (Operand.tmp 53) 33 rfl w.heap.size 23 i0 (.complex .f64 0 0) 1 16 underlying33 hi hz0 hz1 hz2 rfl (by decide) _ l.length (l.map cv) rfl (R.oa.alloc _) ⟨wr.heap.size, 0, none⟩ 1 1 [cv (n, 0)] rfl rfl ?_ ?_ ?_ ?_ ?_ ?_; exact (cell_one_new _ _ _); exact (fun u hu => by simp only [List.mem_singleton] at hu; subst hu; rfl); exact (by unfold maxLen; omega); exact (by omega); exact (by simp; omega); intro va wa oa ga _))
            have obn : (wa.alloc (.cells #[cv (n, 0)] 23)).ownsRow wa.heap.size 23 1 (.slice (some ⟨wa.heap.size, 0, none⟩) 1 1) (1 + l.length) ([cv (n, 0)] ++ l.reverse.map cv) := by
              have h := World.ownsRow_lit (e := 23) (size := 1) wa #[cv (n, 0)] 1 (Nat.le_refl _) (by decide) rfl
              rw [HL.out]; exact h
            have gb : (wa.alloc (.cells #[cv (n, 0)] 23)).grownBy (wa.alloc (.cells #[cv (n, 0)] 23)) (some wa.heap.size) := ⟨rfl, rfl, rfl, Nat.le_refl _, fun _ _ _ => rfl⟩
            go_roundw
            case rel => exact ⟨l ++ [(n, 0)], step R hp hn h40 hsz oa ga obn gb, by simp [sx_snoc], by simp [sy_snoc], by simp⟩
            case measure => simp [intOf]; omega
          · have hne : (Value.slice (some ⟨g, 0, none⟩) l.length cap).ownBlock = none ∨ (Value.slice (some ⟨g, 0, none⟩) l.length cap).ownBlock ≠ u5.ownBlock := .inr fun e => R.apart g e.symm rfl
            go_wp2_with (first | (go_at_call 19; refine (of_in n 0 _ inn ink).mono ?_; rintro e w' ⟨rfl, rfl⟩) | (at_builtin; refine wpList_append_own _ rfl (Operand.tmp 56) (Operand.tmp 57) 33 rfl wa.heap.size 23 i0 (.complex .f64 0 0) 1 16 underlying33 hi hz0 hz1 hz2 rfl (by decide) _ 1 [cv (n, 0)] rfl (World.ownsRow_lit wa #[cv (n, 0)] 1 (Nat.le_refl _) (by decide) rfl) ⟨g, 0, none⟩ l.length cap (l.reverse.map cv) rfl (by simp) ?_ ?_ ?_ ?_ ?_ ?_; exact (World.ownsRow.cells (((ob.alloc _).kept ga hne).alloc _) rfl); exact (fun u hu => by simp only [List.mem_map] at hu; obtain ⟨x, _, rfl⟩ := hu; rfl); exact (by unfold maxLen; omega); exact (by omega); exact (by simp); intro vb wb obn gb _) | (at_builtin; refine wpList_append_own _ rfl (Operand.tmp 51) (Operand.tmp 53) 33 rfl w.heap.size 23 i0 (.complex .f64 0 0) 1 16 underlying33 hi hz0 hz1 hz2 rfl (by decide) _ l.length (l.map cv) rfl (R.oa.alloc _) ⟨wr.heap.size, 0, none⟩ 1 1 [cv (n, 0)] rfl rfl ?_ ?_ ?_ ?_ ?_ ?_; exact (cell_one_new _ _ _); exact (fun u hu => by simp only [List.mem_singleton] at hu; subst hu; rfl); exact (by unfold maxLen; omega); exact (by omega); exact (by simp; omega); intro va wa oa ga _))
            go_roundw
            case rel => exact ⟨l ++ [(n, 0)], step R hp hn h40 hsz oa ga obn gb, by simp [sx_snoc], by simp [sy_snoc], by simp⟩
            case measure => simp [intOf]; omega
      · have h4 : decide ((l.length : Int) < 40) = false := decide_eq_false (by omega)
        go_wp2_with (first | (go_at_call 27; ((with_reducible refine S1.out.mono ?_); rintro e w' ⟨rfl, rfl⟩)) | (go_at_call 21; refine (told_any _).mono ?_; rintro e wt ⟨rfl, hb⟩) | (go_at_call 27; refine (S2.out _ hb).mono ?_; rintro e w' ⟨rfl, rfl⟩) | (go_at_call 22; ((with_reducible refine (alike_same (sx l) (sy l) _ ix iy).mono ?_); rintro e w' ⟨rfl, rfl⟩)) | (go_at_call 22; ((with_reducible refine (alike_same (sy l) (sx l) _ iy ix).mono ?_); rintro e w' ⟨rfl, rfl⟩)) | (go_at_call 23; refine (busy_in (sx l) (sy l) _ ix).mono ?_; rintro e w' ⟨rfl, rfl⟩) | (go_at_call 24; refine (waiting_in (sx l) (sy l) _ iy).mono ?_; rintro e w' ⟨rfl, rfl⟩) | (go_at_call 25; refine (swap_in (sx l) (sy l) _ ix iy).mono ?_; rintro e w' ⟨rfl, rfl⟩) | (go_at_call 19; refine (of_in (sy l) (sx l) _ iy ix).mono ?_; rintro e w' ⟨rfl, rfl⟩))
        go_ret
        exact ⟨rfl, R.below.trans (hb.mono R.below.size)⟩
    · go_wp2_with (first | (go_at_call 27; ((with_reducible refine S1.out.mono ?_); rintro e w' ⟨rfl, rfl⟩)) | (go_at_call 21; refine (told_any _).mono ?_; rintro e wt ⟨rfl, hb⟩) | (go_at_call 27; refine (S2.out _ hb).mono ?_; rintro e w' ⟨rfl, rfl⟩) | (go_at_call 22; ((with_reducible refine (alike_same (sx l) (sy l) _ ix iy).mono ?_); rintro e w' ⟨rfl, rfl⟩)) | (go_at_call 22; ((with_reducible refine (alike_same (sy l) (sx l) _ iy ix).mono ?_); rintro e w' ⟨rfl, rfl⟩)) | (go_at_call 23; refine (busy_in (sx l) (sy l) _ ix).mono ?_; rintro e w' ⟨rfl, rfl⟩) | (go_at_call 24; refine (waiting_in (sx l) (sy l) _ iy).mono ?_; rintro e w' ⟨rfl, rfl⟩) | (go_at_call 25; refine (swap_in (sx l) (sy l) _ ix iy).mono ?_; rintro e w' ⟨rfl, rfl⟩) | (go_at_call 19; refine (of_in (sy l) (sx l) _ iy ix).mono ?_; rintro e w' ⟨rfl, rfl⟩))
      go_ret
      exact ⟨rfl, R.below.trans (hb.mono R.below.size)⟩

end Go.Proofs.Ytnlfocmmnjgmpaa.Su
