/- What the functions of package pick give. -/
import Derived.Test.YtnlfocmmnjgmpaaL
namespace Go.Proofs.Ytnlfocmmnjgmpaa.P
open Go.RowKit Go.Proofs.Ytnlfocmmnjgmpaa.Fl Go.Proofs.Ytnlfocmmnjgmpaa.L

/-- The least loaded of the first k. -/
def leastTo (zs : List (Nat × Nat)) (m : Int) : Nat → Int
  | 0 => -1
  | k + 1 => if whole (zs.getD k (0, 0)).1 < m ∧ (leastTo zs m k < 0 ∨ less (zs.getD k (0, 0)).1 (zs.getD k (0, 0)).2 (zs.getD (leastTo zs m k).toNat (0, 0)).1 (zs.getD (leastTo zs m k).toNat (0, 0)).2 = true) then k else leastTo zs m k

theorem leastTo_bd (zs : List (Nat × Nat)) (m : Int) (k : Nat) : -1 ≤ leastTo zs m k ∧ leastTo zs m k < k := by
  induction k with
  | zero => simp [leastTo]
  | succ k ih =>
    unfold leastTo
    split <;> omega

theorem least_keep {zs : List (Nat × Nat)} {m : Int} {k : Nat} (h : ¬ whole (zs.getD k (0, 0)).1 < m) : leastTo zs m (k + 1) = leastTo zs m k := by
  rw [leastTo, if_neg (by intro h'; exact h h'.1)]
theorem least_first {zs : List (Nat × Nat)} {m : Int} {k : Nat} (h : whole (zs.getD k (0, 0)).1 < m) (h' : leastTo zs m k < 0) : leastTo zs m (k + 1) = k := by
  rw [leastTo, if_pos ⟨h, .inl h'⟩]
theorem least_turn {zs : List (Nat × Nat)} {m : Int} {k : Nat} (h : whole (zs.getD k (0, 0)).1 < m) (h' : less (zs.getD k (0, 0)).1 (zs.getD k (0, 0)).2 (zs.getD (leastTo zs m k).toNat (0, 0)).1 (zs.getD (leastTo zs m k).toNat (0, 0)).2 = true) : leastTo zs m (k + 1) = k := by
  rw [leastTo, if_pos ⟨h, .inr h'⟩]
theorem least_stay {zs : List (Nat × Nat)} {m : Int} {k : Nat} (h0 : ¬ leastTo zs m k < 0) (h' : less (zs.getD k (0, 0)).1 (zs.getD k (0, 0)).2 (zs.getD (leastTo zs m k).toNat (0, 0)).1 (zs.getD (leastTo zs m k).toNat (0, 0)).2 = false) : leastTo zs m (k + 1) = leastTo zs m k := by
  rw [leastTo, if_neg (by intro h; rcases h.2 with a | a; exact h0 a; rw [h'] at a; cases a)]

set_option maxHeartbeats 1000000 in
theorem least_some (b off c : Nat) (zs : List (Nat × Nat)) (m : Int) (w : World) (hlen : zs.length ≤ 8796093022208)
    (hcell : ∀ k, k < zs.length → w.cell? ⟨b, off + k, none⟩ = some (.complex .f64 (zs.getD k (0, 0)).1 (zs.getD k (0, 0)).2)) :
    Calls Try.prog 29 #[.slice (some ⟨b, off, none⟩) zs.length c, .int .i64 m] w fun e w' => e = .returned (.int .i64 (leastTo zs m zs.length)) ∧ w = w' := by
  have HC : Hid (∀ k, k < zs.length → w.cell? ⟨b, off + k, none⟩ = some (.complex .f64 (zs.getD k (0, 0)).1 (zs.getD k (0, 0)).2)) := hcell
  clear hcell
  go_enter Try.func29, Try.ntmps29
  go_wp2_with fail
  go_loop [5, 10] (fun s i => ∃ k : Nat, k ≤ zs.length ∧ i = .int .i64 k ∧ s = .int .i64 (leastTo zs m k)) (fun _ i => zs.length - (intOf i).toNat)
  case atStart => exact ⟨0, Nat.zero_le _, rfl, rfl⟩
  case round =>
    obtain ⟨k, hk, rfl, rfl⟩ := hrel
    obtain ⟨a1, a2⟩ := leastTo_bd zs m k
    by_cases hlt : k < zs.length
    · have hc := HC.out k hlt
      by_cases hm : whole (zs.getD k (0, 0)).1 < m
      · by_cases h0 : leastTo zs m k < 0
        · have HK := Lib.hid (least_first hm h0)
          generalize leastTo zs m k = q at *
          generalize zs.getD k (0, 0) = z at *
          go_wp2_with (first | (go_at_call 23; refine (busy_any _ _ _).mono ?_; rintro e w' ⟨rfl, rfl⟩))
          go_round
          case rel => exact ⟨k + 1, by omega, by go_num, by rw [HK.out]⟩
          case measure => simp [intOf]; omega
        · have hc2 := HC.out (leastTo zs m k).toNat (by omega)
          cases hl : less (zs.getD k (0, 0)).1 (zs.getD k (0, 0)).2 (zs.getD (leastTo zs m k).toNat (0, 0)).1 (zs.getD (leastTo zs m k).toNat (0, 0)).2 with
          | true =>
            have HK := Lib.hid (least_turn hm hl)
            obtain ⟨q, hq⟩ : ∃ q : Nat, leastTo zs m k = q := ⟨(leastTo zs m k).toNat, by omega⟩
            rw [hq] at hc2 hl a1 a2 h0 ⊢
            rw [Int.toNat_natCast] at hc2 hl
            clear hq
            generalize zs.getD k (0, 0) = z at *
            generalize zs.getD q (0, 0) = z2 at *
            have hq0 : ((q : Int) < 0) = False := by simp
            have hql : q < zs.length := by omega
            have LS := Lib.hid (fun w => less_any z.1 z.2 z2.1 z2.2 w)
            rw [hl] at LS
            clear hl
            go_wp2_with (first | (go_at_call 23; refine (busy_any _ _ _).mono ?_; rintro e w' ⟨rfl, rfl⟩) | (go_at_call 26; refine (LS.out _).mono ?_; rintro e w' ⟨rfl, rfl⟩))
            go_round
            case rel => exact ⟨k + 1, by omega, by go_num, by rw [HK.out]⟩
            case measure => simp [intOf]; omega
          | false =>
            have HK := Lib.hid (least_stay h0 hl)
            obtain ⟨q, hq⟩ : ∃ q : Nat, leastTo zs m k = q := ⟨(leastTo zs m k).toNat, by omega⟩
            rw [hq] at HK hc2 hl a1 a2 h0 ⊢
            rw [Int.toNat_natCast] at hc2 hl
            clear hq
            generalize zs.getD k (0, 0) = z at *
            generalize zs.getD q (0, 0) = z2 at *
            have hq0 : ((q : Int) < 0) = False := by simp
            have hql : q < zs.length := by omega
            have LS := Lib.hid (fun w => less_any z.1 z.2 z2.1 z2.2 w)
            rw [hl] at LS
            clear hl
            go_wp2_with (first | (go_at_call 23; refine (busy_any _ _ _).mono ?_; rintro e w' ⟨rfl, rfl⟩) | (go_at_call 26; refine (LS.out _).mono ?_; rintro e w' ⟨rfl, rfl⟩))
            go_round
            case rel => exact ⟨k + 1, by omega, by go_num, by rw [HK.out]⟩
            case measure => simp [intOf]; omega
      · have HK := Lib.hid (least_keep hm)
        generalize leastTo zs m k = q at *
        generalize zs.getD k (0, 0) = z at *
        go_wp2_with (first | (go_at_call 23; refine (busy_any _ _ _).mono ?_; rintro e w' ⟨rfl, rfl⟩))
        go_round
        case rel => exact ⟨k + 1, by omega, by go_num, by rw [HK.out]⟩
        case measure => simp [intOf]; omega
    · obtain rfl : k = zs.length := by omega
      go_wp2
      go_ret
      exact ⟨rfl, rfl⟩

/-- The first that has room, from place k on: 'd' places are left. -/
def firstFrom (zs : List (Nat × Nat)) (m : Int) (k : Nat) : Nat → Int
  | 0 => -1
  | d + 1 => if whole (zs.getD k (0, 0)).1 < m then k else firstFrom zs m (k + 1) d
def firstOf (zs : List (Nat × Nat)) (m : Int) : Int := firstFrom zs m 0 zs.length

theorem first_hit {zs : List (Nat × Nat)} {m : Int} {k d : Nat} (h : whole (zs.getD k (0, 0)).1 < m) : firstFrom zs m k (d + 1) = k := by rw [firstFrom, if_pos h]
theorem first_miss {zs : List (Nat × Nat)} {m : Int} {k d : Nat} (h : ¬ whole (zs.getD k (0, 0)).1 < m) : firstFrom zs m k (d + 1) = firstFrom zs m (k + 1) d := by rw [firstFrom, if_neg h]

set_option maxHeartbeats 1000000 in
theorem first_some (b off c : Nat) (zs : List (Nat × Nat)) (m : Int) (w : World) (hlen : zs.length ≤ 8796093022208)
    (hcell : ∀ k, k < zs.length → w.cell? ⟨b, off + k, none⟩ = some (.complex .f64 (zs.getD k (0, 0)).1 (zs.getD k (0, 0)).2)) :
    Calls Try.prog 30 #[.slice (some ⟨b, off, none⟩) zs.length c, .int .i64 m] w fun e w' => e = .returned (.int .i64 (firstOf zs m)) ∧ w = w' := by
  have HC : Hid (∀ k, k < zs.length → w.cell? ⟨b, off + k, none⟩ = some (.complex .f64 (zs.getD k (0, 0)).1 (zs.getD k (0, 0)).2)) := hcell
  clear hcell
  obtain ⟨R, hR⟩ : ∃ R, firstOf zs m = R := ⟨_, rfl⟩
  have h0 : firstFrom zs m 0 zs.length = R := hR
  rw [hR]
  have H0 := Lib.hid h0
  clear h0 hR
  go_enter Try.func30, Try.ntmps30
  go_wp2_with fail
  go_loop [9] (fun i => ∃ k : Nat, k ≤ zs.length ∧ i = .int .i64 k ∧ firstFrom zs m k (zs.length - k) = R) (fun i => zs.length - (intOf i).toNat)
  case atStart => exact ⟨0, Nat.zero_le _, rfl, H0.out⟩
  case round =>
    obtain ⟨k, hk, rfl, hf⟩ := hrel
    by_cases hlt : k < zs.length
    · have hc := HC.out k hlt
      obtain ⟨d, hd⟩ : ∃ d, zs.length - k = d + 1 := ⟨zs.length - k - 1, by omega⟩
      rw [hd] at hf
      have hd' : zs.length - (k + 1) = d := by omega
      by_cases hm : whole (zs.getD k (0, 0)).1 < m
      · rw [first_hit hm] at hf
        have HF := Lib.hid hf
        clear hf hd hd'
        generalize zs.getD k (0, 0) = z at *
        go_wp2_with (first | (go_at_call 23; refine (busy_any _ _ _).mono ?_; rintro e w' ⟨rfl, rfl⟩))
        go_ret
        exact ⟨ret_int HF.out, rfl⟩
      · rw [first_miss hm] at hf
        have HF := Lib.hid (show firstFrom zs m (k + 1) (zs.length - (k + 1)) = R by rw [hd']; exact hf)
        clear hf hd hd'
        generalize zs.getD k (0, 0) = z at *
        go_wp2_with (first | (go_at_call 23; refine (busy_any _ _ _).mono ?_; rintro e w' ⟨rfl, rfl⟩))
        go_round
        case rel => exact ⟨k + 1, by omega, by go_num, HF.out⟩
        case measure => simp [intOf]; omega
    · obtain rfl : k = zs.length := by omega
      rw [Nat.sub_self] at hf
      have HF := Lib.hid (show -1 = R from hf)
      clear hf
      go_wp2
      go_ret
      exact ⟨ret_int HF.out, rfl⟩

/-- How much room the first k have together. -/
def spareTo (zs : List (Nat × Nat)) (m : Int) : Nat → Int
  | 0 => 0
  | k + 1 => spareTo zs m k + max (cut m - whole (zs.getD k (0, 0)).1) 0

theorem spareTo_bd (zs : List (Nat × Nat)) (m : Int) (k : Nat) : 0 ≤ spareTo zs m k ∧ spareTo zs m k ≤ k * 1099511627776 := by
  induction k with
  | zero => simp [spareTo]
  | succ k ih =>
    have := cut_bd m
    have := whole_bd (zs.getD k (0, 0)).1
    unfold spareTo
    rw [Int.natCast_add, Int.add_mul]
    omega

theorem cut_ways (m : Int) : (m < 0 → cut m = 0) ∧ (0 ≤ m → 1099511627776 < m → cut m = 1099511627776) ∧ (0 ≤ m → m ≤ 1099511627776 → cut m = m) := by
  unfold cut; omega

set_option maxHeartbeats 1000000 in
theorem spare_some (b off c : Nat) (zs : List (Nat × Nat)) (m : Int) (w : World) (hlen : zs.length ≤ 1000)
    (hcell : ∀ k, k < zs.length → w.cell? ⟨b, off + k, none⟩ = some (.complex .f64 (zs.getD k (0, 0)).1 (zs.getD k (0, 0)).2)) :
    Calls Try.prog 31 #[.slice (some ⟨b, off, none⟩) zs.length c, .int .i64 m] w fun e w' => e = .returned (.int .i64 (spareTo zs m zs.length)) ∧ w = w' := by
  have HC : Hid (∀ k, k < zs.length → w.cell? ⟨b, off + k, none⟩ = some (.complex .f64 (zs.getD k (0, 0)).1 (zs.getD k (0, 0)).2)) := hcell
  clear hcell
  go_enter Try.func31, Try.ntmps31
  go_wp2_with fail
  go_loop [5, 10] (fun s i => ∃ k : Nat, k ≤ zs.length ∧ i = .int .i64 k ∧ s = .int .i64 (spareTo zs m k)) (fun _ i => zs.length - (intOf i).toNat)
  case atStart => exact ⟨0, Nat.zero_le _, rfl, rfl⟩
  case round =>
    obtain ⟨k, hk, rfl, rfl⟩ := hrel
    obtain ⟨a1, a2⟩ := spareTo_bd zs m k
    have a3 : spareTo zs m k ≤ 1099511627776000 := by
      have : (k : Int) ≤ 1000 := by omega
      omega
    clear a2
    by_cases hlt : k < zs.length
    · have hc := HC.out k hlt
      obtain ⟨c1, c2⟩ := cut_bd m
      have HK : Hid (spareTo zs m (k + 1) = spareTo zs m k + max (cut m - whole (zs.getD k (0, 0)).1) 0) := rfl
      obtain ⟨b1, b2⟩ := whole_bd (zs.getD k (0, 0)).1
      generalize spareTo zs m k = q at *
      generalize zs.getD k (0, 0) = z at *
      obtain ⟨h1, h2, h3⟩ := cut_ways m
      have H1 := Lib.hid h1
      have H2 := Lib.hid h2
      have H3 := Lib.hid h3
      clear h1 h2 h3
      by_cases m0 : m < 0
      · have C := Lib.hid (H1.out m0)
        go_wp2_with (first | (go_at_call 23; refine (busy_any _ _ _).mono ?_; rintro e w' ⟨rfl, rfl⟩))
        all_goals
          go_round
          case rel => exact ⟨k + 1, by omega, by go_num, by rw [HK.out, C.out]; first | go_num | (congr 1; omega)⟩
          case measure => simp [intOf]; omega
      · by_cases m1 : 1099511627776 < m
        · have C := Lib.hid (H2.out (by omega) m1)
          go_wp2_with (first | (go_at_call 23; refine (busy_any _ _ _).mono ?_; rintro e w' ⟨rfl, rfl⟩))
          all_goals
            go_round
            case rel => exact ⟨k + 1, by omega, by go_num, by rw [HK.out, C.out]; first | go_num | (congr 1; omega)⟩
            case measure => simp [intOf]; omega
        · have C := Lib.hid (H3.out (by omega) (by omega))
          go_wp2_with (first | (go_at_call 23; refine (busy_any _ _ _).mono ?_; rintro e w' ⟨rfl, rfl⟩))
          all_goals
            go_round
            case rel => exact ⟨k + 1, by omega, by go_num, by rw [HK.out, C.out]; first | go_num | (congr 1; omega)⟩
            case measure => simp [intOf]; omega
    · obtain rfl : k = zs.length := by omega
      go_wp2
      go_ret
      exact ⟨rfl, rfl⟩

set_option maxHeartbeats 400000 in
theorem least_none (c : Nat) (m : Int) (w : World) : Calls Try.prog 29 #[.slice none 0 c, .int .i64 m] w fun e w' => e = .returned (.int .i64 (-1)) ∧ w = w' := by
  go_enter Try.func29, Try.ntmps29
  go_wp2_with fail
  go_loop [5, 10] (fun s i => i = .int .i64 0 ∧ s = .int .i64 (-1)) (fun _ _ => 0)
  case atStart => exact ⟨rfl, rfl⟩
  case round =>
    obtain ⟨rfl, rfl⟩ := hrel
    go_wp2
    go_ret
    exact ⟨rfl, rfl⟩

set_option maxHeartbeats 400000 in
theorem first_none (c : Nat) (m : Int) (w : World) : Calls Try.prog 30 #[.slice none 0 c, .int .i64 m] w fun e w' => e = .returned (.int .i64 (-1)) ∧ w = w' := by
  go_enter Try.func30, Try.ntmps30
  go_wp2_with fail
  go_loop [9] (fun i => i = .int .i64 0) (fun _ => 0)
  case atStart => rfl
  case round =>
    subst hrel
    go_wp2
    go_ret
    exact ⟨rfl, rfl⟩

set_option maxHeartbeats 400000 in
theorem spare_none (c : Nat) (m : Int) (w : World) : Calls Try.prog 31 #[.slice none 0 c, .int .i64 m] w fun e w' => e = .returned (.int .i64 0) ∧ w = w' := by
  go_enter Try.func31, Try.ntmps31
  go_wp2_with fail
  go_loop [5, 10] (fun s i => i = .int .i64 0 ∧ s = .int .i64 0) (fun _ _ => 0)
  case atStart => exact ⟨rfl, rfl⟩
  case round =>
    obtain ⟨rfl, rfl⟩ := hrel
    go_wp2
    go_ret
    exact ⟨rfl, rfl⟩

theorem least_any (v : Value) (zs : List (Nat × Nat)) (m : Int) (w : World) (hlen : zs.length ≤ 8796093022208) (h : Cx w v zs) : Calls Try.prog 29 #[v, .int .i64 m] w fun e w' => e = .returned (.int .i64 (leastTo zs m zs.length)) ∧ w = w' := by
  rcases h with ⟨c, rfl, rfl⟩ | ⟨b, off, c, rfl, hc⟩
  · exact least_none c m w
  · exact least_some b off c zs m w hlen hc
theorem first_any (v : Value) (zs : List (Nat × Nat)) (m : Int) (w : World) (hlen : zs.length ≤ 8796093022208) (h : Cx w v zs) : Calls Try.prog 30 #[v, .int .i64 m] w fun e w' => e = .returned (.int .i64 (firstOf zs m)) ∧ w = w' := by
  rcases h with ⟨c, rfl, rfl⟩ | ⟨b, off, c, rfl, hc⟩
  · exact first_none c m w
  · exact first_some b off c zs m w hlen hc
theorem spare_any (v : Value) (zs : List (Nat × Nat)) (m : Int) (w : World) (hlen : zs.length ≤ 1000) (h : Cx w v zs) : Calls Try.prog 31 #[v, .int .i64 m] w fun e w' => e = .returned (.int .i64 (spareTo zs m zs.length)) ∧ w = w' := by
  rcases h with ⟨c, rfl, rfl⟩ | ⟨b, off, c, rfl, hc⟩
  · exact spare_none c m w
  · exact spare_some b off c zs m w hlen hc

/-- The list of 'told'. -/
def tl : List (Nat × Nat) := [(4611686018427387904, 0), (4607182418800017408, 4617315517961601024), (4607182418800017408, 4611686018427387904), (4613937818241073152, 0)]

theorem told_run (W : World) (v : Value) (m r : Int) (f : Nat) (h : f = 29 ∧ leastTo tl m 4 = r ∨ f = 30 ∧ firstOf tl m = r ∨ f = 31 ∧ spareTo tl m 4 = r) (hc : Cx W v tl) : Calls Try.prog f #[v, .int .i64 m] W fun e w' => e = .returned (.int .i64 r) ∧ W = w' := by
  rcases h with ⟨rfl, rfl⟩ | ⟨rfl, rfl⟩ | ⟨rfl, rfl⟩
  · exact least_any v tl m W (by decide) hc
  · exact first_any v tl m W (by decide) hc
  · exact spare_any v tl m W (by decide) hc

theorem told_cx (W : World) : Cx (W.alloc (.cells #[.complex .f64 4611686018427387904 0, .complex .f64 4607182418800017408 4617315517961601024, .complex .f64 4607182418800017408 4611686018427387904, .complex .f64 4613937818241073152 0] 23)) (.slice (some ⟨W.heap.size, 0, none⟩) 4 4) tl := by
  refine .inr ⟨_, 0, 4, rfl, fun k hk => ?_⟩
  rw [World.cell?_alloc_at _ _ _ _ rfl]
  match k, hk with
  | 0, _ => rfl
  | 1, _ => rfl
  | 2, _ => rfl
  | 3, _ => rfl

set_option maxHeartbeats 1000000 in
theorem told_any (w : World) : Calls Try.prog 28 #[] w fun e w' => e = .returned (.bool true) ∧ Below w.heap.size w w' := by
  have t1 := Lib.hid (told_run _ _ 3 2 29 (.inl ⟨rfl, by decide +kernel⟩) (told_cx w))
  have t2 := Lib.hid (told_run _ _ 1 (-1) 29 (.inl ⟨rfl, by decide +kernel⟩) (told_cx w))
  have t3 := Lib.hid (told_run _ _ 2 1 30 (.inr (.inl ⟨rfl, by decide +kernel⟩)) (told_cx w))
  have t4 := Lib.hid (told_run _ _ 3 0 30 (.inr (.inl ⟨rfl, by decide +kernel⟩)) (told_cx w))
  have t5 := Lib.hid (told_run _ _ 3 5 31 (.inr (.inr ⟨rfl, by decide +kernel⟩)) (told_cx w))
  have t6 := Lib.hid (told_run _ _ (-1) 0 31 (.inr (.inr ⟨rfl, by decide +kernel⟩)) (told_cx w))
  go_enter Try.func28, Try.ntmps28
  go_wp2_with (first | (go_at_call 29; ((with_reducible refine t1.out.mono ?_); rintro e w' ⟨rfl, rfl⟩)) | (go_at_call 29; ((with_reducible refine t2.out.mono ?_); rintro e w' ⟨rfl, rfl⟩)) | (go_at_call 30; ((with_reducible refine t3.out.mono ?_); rintro e w' ⟨rfl, rfl⟩)) | (go_at_call 30; ((with_reducible refine t4.out.mono ?_); rintro e w' ⟨rfl, rfl⟩)) | (go_at_call 31; ((with_reducible refine t5.out.mono ?_); rintro e w' ⟨rfl, rfl⟩)) | (go_at_call 31; ((with_reducible refine t6.out.mono ?_); rintro e w' ⟨rfl, rfl⟩)) | (go_at_call 29; refine (least_none _ _ _).mono ?_; rintro e w' ⟨rfl, rfl⟩))
  go_ret
  exact ⟨rfl, (Below.refl _ _).alloc (Nat.le_refl _) _⟩

end Go.Proofs.Ytnlfocmmnjgmpaa.P
