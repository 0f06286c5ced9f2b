/- PickNone. -/
import Derived.Test.YtnlfocmmnjgmpaaP
import Derived.Test.YtnlfocmmnjgmpaaIn1
import Derived.Deep.RegionHeld3
import Derived.Deep.AppendLies
import Derived.IntWalk
namespace Go.Proofs.Ytnlfocmmnjgmpaa.Pn
open Go.RowKit Go.Proofs.Ytnlfocmmnjgmpaa.Fl Go.Proofs.Ytnlfocmmnjgmpaa.L Go.Proofs.Ytnlfocmmnjgmpaa.P Go.Proofs.Ytnlfocmmnjgmpaa.In1

theorem underlying33 : Try.prog.underlying 33 = some (.slice 23) := by kernel_rfl

/-- What holds ahead of each round. -/
structure Rel (B : Nat) (w : World) (m : Int) (n most : Nat) (l : List (Int × Int)) (z : Value) (wr : World) : Prop where
  len : l.length ≤ n
  most : l.length ≤ most
  ok : ∀ p ∈ l, m ≤ p.1 ∧ p.1 ≤ m + 8
  own : wr.ownsRow B 23 1 z l.length (l.map cv)
  below : Below B w wr

theorem none_least {m : Int} {l : List (Int × Int)} (h : ∀ p ∈ l, m ≤ p.1 ∧ p.1 ≤ m + 8) (m0 : 0 ≤ m) (m1 : m ≤ 50) (k : Nat) (hk : k ≤ l.length) : leastTo (l.map zb) m k = -1 := by
  induction k with
  | zero => rfl
  | succ k ih =>
    rw [least_keep, ih (by omega)]
    have hk' : k < l.length := by omega
    have := h l[k] (List.getElem_mem hk')
    simp only [List.getD, List.getElem?_map, List.getElem?_eq_getElem hk', Option.map_some, Option.getD_some, zb]
    rw [whole_fl (by omega) (by omega)]
    omega

theorem none_first {m : Int} {l : List (Int × Int)} (h : ∀ p ∈ l, m ≤ p.1 ∧ p.1 ≤ m + 8) (m0 : 0 ≤ m) (m1 : m ≤ 50) (d k : Nat) (hk : k + d = l.length) : firstFrom (l.map zb) m k d = -1 := by
  induction d generalizing k with
  | zero => rfl
  | succ d ih =>
    rw [first_miss, ih (k + 1) (by omega)]
    have hk' : k < l.length := by omega
    have := h l[k] (List.getElem_mem hk')
    simp only [List.getD, List.getElem?_map, List.getElem?_eq_getElem hk', Option.map_some, Option.getD_some, zb]
    rw [whole_fl (by omega) (by omega)]
    omega

theorem none_spare {m : Int} {l : List (Int × Int)} (h : ∀ p ∈ l, m ≤ p.1 ∧ p.1 ≤ m + 8) (m0 : 0 ≤ m) (m1 : m ≤ 50) (k : Nat) (hk : k ≤ l.length) : spareTo (l.map zb) m k = 0 := by
  induction k with
  | zero => rfl
  | succ k ih =>
    rw [spareTo, ih (by omega)]
    have hk' : k < l.length := by omega
    have := h l[k] (List.getElem_mem hk')
    simp only [List.getD, List.getElem?_map, List.getElem?_eq_getElem hk', Option.map_some, Option.getD_some, zb]
    rw [whole_fl (by omega) (by omega), cut_in (by omega) (by omega)]
    omega

theorem some_least {m : Int} {l : List (Int × Int)} (h : ∀ p ∈ l, m ≤ p.1 ∧ p.1 ≤ m + 8) (m0 : 0 ≤ m) (m1 : m ≤ 50) (k : Nat) (hk : k < l.length) : 0 ≤ leastTo (l.map zb) 100 (k + 1) := by
  have hk' : k < l.length := by omega
  have hw : whole ((l.map zb).getD k (0, 0)).1 < 100 := by
    have := h l[k] (List.getElem_mem hk')
    simp only [List.getD, List.getElem?_map, List.getElem?_eq_getElem hk', Option.map_some, Option.getD_some, zb]
    rw [whole_fl (by omega) (by omega)]
    omega
  by_cases hb : leastTo (l.map zb) 100 k < 0
  · rw [least_first hw hb]; omega
  · rw [leastTo]; split <;> omega

theorem elems_of {w : World} {a : Option Addr} {len cap : Nat} {zs : List Int} (h : IsRow .i64 w a len cap zs) : ∀ j, j < len → ∃ b off, a = some ⟨b, off, none⟩ ∧ w.cell? ⟨b, off + j, none⟩ = some (.int .i64 (zs.getD j 0)) := by
  intro j hj
  rcases h.at'.2 with ⟨_, h0⟩ | ⟨b, off, h1, h2⟩
  · omega
  · exact ⟨b, off, h1 (by omega), h2 j hj⟩

theorem tofloatu (n : Int) (w : World) : (convert 22 36 (.int .u64 n)).run Try.prog w = .ok (.float .f64 (fl n)) w := run_convert_int_float w 22 36 .u64 .f64 n (by kernel_rfl) underlying36

theorem part_bd (m q : Int) (h0 : 0 ≤ m) (h1 : m < 51) : m ≤ IntKind.i64.wrap (m + IntKind.i64.wrap ((IntKind.u64.wrap q).tmod 9)) ∧ IntKind.i64.wrap (m + IntKind.i64.wrap ((IntKind.u64.wrap q).tmod 9)) ≤ m + 8 := by
  obtain ⟨x, hx0, hx1, hX⟩ := umod q 9 (by omega) (by omega)
  have e : ∀ n, IntKind.i64.wrap n = wrap64 n := fun n => by rw [IntKind.wrap_i64]; unfold wrap64; omega
  rw [e, e, hX]
  unfold wrap64
  omega

theorem none_calls_least {B : Nat} {w : World} {m : Int} {n : Nat} {l : List (Int × Int)} {z : Value} {wr : World} (R : Rel B w m n 20 l z wr) (m0 : 0 ≤ m) (m1 : m ≤ 50) (W : World) (hb : Below wr.heap.size wr W) :
    Calls Try.prog 29 #[z, .int .i64 m] W fun e w' => e = .returned (.int .i64 (-1)) ∧ W = w' := by
  have := R.most
  have h := least_any z (l.map zb) m W (by simp; omega) (cx_of_own (ownsRow_below R.own hb))
  rwa [List.length_map, none_least R.ok m0 m1 l.length (Nat.le_refl _)] at h
theorem none_calls_first {B : Nat} {w : World} {m : Int} {n : Nat} {l : List (Int × Int)} {z : Value} {wr : World} (R : Rel B w m n 20 l z wr) (m0 : 0 ≤ m) (m1 : m ≤ 50) (W : World) (hb : Below wr.heap.size wr W) :
    Calls Try.prog 30 #[z, .int .i64 m] W fun e w' => e = .returned (.int .i64 (-1)) ∧ W = w' := by
  have := R.most
  have h := first_any z (l.map zb) m W (by simp; omega) (cx_of_own (ownsRow_below R.own hb))
  unfold firstOf at h
  rwa [List.length_map, none_first R.ok m0 m1 l.length 0 (by omega)] at h
theorem none_calls_spare {B : Nat} {w : World} {m : Int} {n : Nat} {l : List (Int × Int)} {z : Value} {wr : World} (R : Rel B w m n 20 l z wr) (m0 : 0 ≤ m) (m1 : m ≤ 50) (W : World) (hb : Below wr.heap.size wr W) :
    Calls Try.prog 31 #[z, .int .i64 m] W fun e w' => e = .returned (.int .i64 0) ∧ W = w' := by
  have := R.most
  have h := spare_any z (l.map zb) m W (by simp; omega) (cx_of_own (ownsRow_below R.own hb))
  rwa [List.length_map, none_spare R.ok m0 m1 l.length (Nat.le_refl _)] at h
theorem some_calls_least {B : Nat} {w : World} {m : Int} {n : Nat} {l : List (Int × Int)} {z : Value} {wr : World} (R : Rel B w m n 20 l z wr) (W : World) (hb : Below wr.heap.size wr W) :
    Calls Try.prog 29 #[z, .int .i64 100] W fun e w' => e = .returned (.int .i64 (leastTo (l.map zb) 100 l.length)) ∧ W = w' := by
  have := R.most
  have h := least_any z (l.map zb) 100 W (by simp; omega) (cx_of_own (ownsRow_below R.own hb))
  rwa [List.length_map] at h

set_option maxHeartbeats 2000000 in
theorem walk (a0 : Option Addr) (len0 cap0 : Nat) (z0 : List Int) (lim : Int) (w : World) (_m0 : len0 ≤ 9223372036854775807) (w0 : ∀ j, j < len0 → ∃ b off, a0 = some ⟨b, off, none⟩ ∧ w.cell? ⟨b, off + j, none⟩ = some (.int .i64 (z0.getD j 0))) :
    Calls Try.prog 6 #[.slice a0 len0 cap0, .int .i64 lim] w fun e w' => e = .returned (.bool true) ∧ Below w.heap.size w w' := by
  obtain ⟨i0, hi, hz0, hz1, hz2⟩ := info_parts info23
  have W0 := Lib.hid w0
  clear w0
  obtain ⟨m, hm0, hm1, hM⟩ := umod lim 51 (by omega) (by omega)
  go_enter Try.func6, Try.ntmps6
  go_wp2_with fail
  simp only [hM]
  clear hM
  go_loopw [6, 7] (fun z i wr => ∃ l : List (Int × Int), Rel w.heap.size w m len0 20 l z wr ∧ i = .int .i64 (l.length : Nat)) (fun _ i _ => len0 - (intOf i).toNat)
  case atStart => exact ⟨[], ⟨Nat.zero_le _, by simp, by simp, World.ownsRow_nil _ _ _ _, Below.refl _ _⟩, rfl⟩
  case round =>
    obtain ⟨l, R, rfl⟩ := hrel
    have hsz := R.below.size
    by_cases hn : l.length < len0
    · by_cases h40 : l.length < 20
      · obtain ⟨b, off, rfl, hc⟩ := W0.out _ hn
        have hc' := cell_later R.below hc
        have hbw := World.block_lt_of_cell? w _ hc
        have ag : u6.ownBlock ≠ some b := fun e => by have := R.own.lt b e; simp at hbw; omega
        have hbr : b < wr.heap.size := by simp at hbw; omega
        clear hc
        generalize z0.getD l.length 0 = q at hc'
        have j0 : (0 : Int) ≤ (l.length : Int) := Int.natCast_nonneg _
        have j1 : (l.length : Int) < (len0 : Int) := by omega
        go_wp2_with fail
        go_region_held3 (fun w' => w'.cell? ⟨b, off + l.length, none⟩ = some (.int .i64 q)) (first | go_keep | (rw [hgrow.cell_far _ (by simp; omega) (Ne.symm ag)]; assumption))
          ((refine step_append_lies _ (by rfl) _ _ _ (by rfl) w.heap.size 23 i0 _ 1 16 underlying33 hi hz0 hz1 hz2 rfl (by omega) u6 l.length (l.map cv) (by rfl) ((R.own.alloc _).drew)
                ⟨wr.heap.size, 0, none⟩ 1 1 [.complex .f64 _ _] (by rfl) (by rfl) (World.news_of_block (cs := #[.complex .f64 _ _]) (t := 23) (fr := (0, 0)) (heap_alloc_new wr _)) (by simp [Value.oneCell'])
                (by omega) (by unfold maxLen; omega) (by omega) (by simp; omega) (wr.heap.size + 1) (by simp) ?_; intro gg cap w1 hown1 hgrow hat hlt))
        have hP := part_bd m q hm0 hm1
        obtain ⟨hP1, hP2⟩ := hP
        generalize IntKind.i64.wrap (m + IntKind.i64.wrap ((IntKind.u64.wrap q).tmod 9)) = p1 at *
        generalize (IntKind.u64.wrap ((IntKind.u64.wrap q).tdiv 9)).tmod 9 = p2 at *
        have R' : Rel w.heap.size w m len0 20 (l ++ [(p1, p2)]) (.slice (some ⟨gg, 0, none⟩) (l.length + 1) cap) w1 := by
          refine ⟨by simp; omega, by simp; omega, ?_, by simpa [cv, fl] using hown1, ?_⟩
          · intro p hp
            simp only [List.mem_append, List.mem_singleton] at hp
            rcases hp with hp | rfl
            · exact R.ok p hp
            · exact ⟨hP1, hP2⟩
          · refine ((R.below.alloc hsz _).drew).grown hgrow (by simp; omega) ?_
            intro k hk; exact (R.own.lt k hk).1
        have LR := Lib.hid R'
        clear R' hgrow hown1 hat
        go_wp2
        go_roundw
        case rel => exact ⟨l ++ [(p1, p2)], LR.out, by simp⟩
        case measure => simp [intOf]; omega
      · have h4 : decide ((l.length : Int) < 20) = false := decide_eq_false (by omega)
        have t0 := Lib.hid fun (W : World) (hb : Below wr.heap.size wr W) => none_calls_least R hm0 (by omega) W hb
        have t1 := Lib.hid fun (W : World) (hb : Below wr.heap.size wr W) => none_calls_first R hm0 (by omega) W hb
        have t2 := Lib.hid fun (W : World) (hb : Below wr.heap.size wr W) => none_calls_spare R hm0 (by omega) W hb
        have hR := R.below
        rcases R.own.2 with ⟨rfl, hl0⟩ | ⟨g, cap, cur, rfl, _⟩
        · exfalso; omega
        · by_cases hl : l.length = 0
          · have e0 : ((l.length : Int) == 0) = true := by simp [hl]
            clear hl
            go_wp2_with (first | (go_at_call 28; refine (P.told_any _).mono ?_; rintro e wt ⟨rfl, hb⟩) | (go_at_call 29; ((with_reducible refine (t0.out _ hb).mono ?_); rintro e w' ⟨rfl, rfl⟩)) | (go_at_call 30; ((with_reducible refine (t1.out _ hb).mono ?_); rintro e w' ⟨rfl, rfl⟩)) | (go_at_call 31; ((with_reducible refine (t2.out _ hb).mono ?_); rintro e w' ⟨rfl, rfl⟩)) | (go_at_call 29; ((with_reducible refine (t3.out _ hb).mono ?_); rintro e w' ⟨rfl, rfl⟩)))
            go_ret
            exact ⟨rfl, hR.trans (hb.mono hsz)⟩
          · have e0 : ((l.length : Int) == 0) = false := beq_eq_false_iff_ne.2 (by omega)
            have hr := some_least R.ok hm0 (by omega) (l.length - 1) (by omega)
            rw [show l.length - 1 + 1 = l.length from by omega] at hr
            have t3 := Lib.hid fun (W : World) (hb : Below wr.heap.size wr W) => some_calls_least R W hb
            generalize leastTo (l.map zb) 100 l.length = r at *
            clear hl
            go_wp2_with (first | (go_at_call 28; refine (P.told_any _).mono ?_; rintro e wt ⟨rfl, hb⟩) | (go_at_call 29; ((with_reducible refine (t0.out _ hb).mono ?_); rintro e w' ⟨rfl, rfl⟩)) | (go_at_call 30; ((with_reducible refine (t1.out _ hb).mono ?_); rintro e w' ⟨rfl, rfl⟩)) | (go_at_call 31; ((with_reducible refine (t2.out _ hb).mono ?_); rintro e w' ⟨rfl, rfl⟩)) | (go_at_call 29; ((with_reducible refine (t3.out _ hb).mono ?_); rintro e w' ⟨rfl, rfl⟩)))
            go_ret
            exact ⟨rfl, hR.trans (hb.mono hsz)⟩
    · have t0 := Lib.hid fun (W : World) (hb : Below wr.heap.size wr W) => none_calls_least R hm0 (by omega) W hb
      have t1 := Lib.hid fun (W : World) (hb : Below wr.heap.size wr W) => none_calls_first R hm0 (by omega) W hb
      have t2 := Lib.hid fun (W : World) (hb : Below wr.heap.size wr W) => none_calls_spare R hm0 (by omega) W hb
      have hR := R.below
      rcases R.own.2 with ⟨rfl, hl0⟩ | ⟨g, cap, cur, rfl, _⟩
      · go_wp2_with (first | (go_at_call 28; refine (P.told_any _).mono ?_; rintro e wt ⟨rfl, hb⟩) | (go_at_call 29; ((with_reducible refine (t0.out _ hb).mono ?_); rintro e w' ⟨rfl, rfl⟩)) | (go_at_call 30; ((with_reducible refine (t1.out _ hb).mono ?_); rintro e w' ⟨rfl, rfl⟩)) | (go_at_call 31; ((with_reducible refine (t2.out _ hb).mono ?_); rintro e w' ⟨rfl, rfl⟩)) | (go_at_call 29; ((with_reducible refine (t3.out _ hb).mono ?_); rintro e w' ⟨rfl, rfl⟩)))
        go_ret
        exact ⟨rfl, hR.trans (hb.mono hsz)⟩
      · by_cases hl : l.length = 0
        · have e0 : ((l.length : Int) == 0) = true := by simp [hl]
          clear hl
          go_wp2_with (first | (go_at_call 28; refine (P.told_any _).mono ?_; rintro e wt ⟨rfl, hb⟩) | (go_at_call 29; ((with_reducible refine (t0.out _ hb).mono ?_); rintro e w' ⟨rfl, rfl⟩)) | (go_at_call 30; ((with_reducible refine (t1.out _ hb).mono ?_); rintro e w' ⟨rfl, rfl⟩)) | (go_at_call 31; ((with_reducible refine (t2.out _ hb).mono ?_); rintro e w' ⟨rfl, rfl⟩)) | (go_at_call 29; ((with_reducible refine (t3.out _ hb).mono ?_); rintro e w' ⟨rfl, rfl⟩)))
          go_ret
          exact ⟨rfl, hR.trans (hb.mono hsz)⟩
        · have e0 : ((l.length : Int) == 0) = false := beq_eq_false_iff_ne.2 (by omega)
          have hr := some_least R.ok hm0 (by omega) (l.length - 1) (by omega)
          rw [show l.length - 1 + 1 = l.length from by omega] at hr
          have t3 := Lib.hid fun (W : World) (hb : Below wr.heap.size wr W) => some_calls_least R W hb
          generalize leastTo (l.map zb) 100 l.length = r at *
          clear hl
          go_wp2_with (first | (go_at_call 28; refine (P.told_any _).mono ?_; rintro e wt ⟨rfl, hb⟩) | (go_at_call 29; ((with_reducible refine (t0.out _ hb).mono ?_); rintro e w' ⟨rfl, rfl⟩)) | (go_at_call 30; ((with_reducible refine (t1.out _ hb).mono ?_); rintro e w' ⟨rfl, rfl⟩)) | (go_at_call 31; ((with_reducible refine (t2.out _ hb).mono ?_); rintro e w' ⟨rfl, rfl⟩)) | (go_at_call 29; ((with_reducible refine (t3.out _ hb).mono ?_); rintro e w' ⟨rfl, rfl⟩)))
          go_ret
          exact ⟨rfl, hR.trans (hb.mono hsz)⟩

end Go.Proofs.Ytnlfocmmnjgmpaa.Pn
