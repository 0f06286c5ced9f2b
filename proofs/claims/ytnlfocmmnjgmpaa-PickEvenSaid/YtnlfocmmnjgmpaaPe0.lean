/- PickEven: the plain law of filling evenly. -/
import Derived.Test.YtnlfocmmnjgmpaaPl
namespace Go.Proofs.Ytnlfocmmnjgmpaa.Pe0
open Go.RowKit Go.Proofs.Ytnlfocmmnjgmpaa.Fl Go.Proofs.Ytnlfocmmnjgmpaa.L Go.Proofs.Ytnlfocmmnjgmpaa.P Go.Proofs.Ytnlfocmmnjgmpaa.In1 Go.Proofs.Ytnlfocmmnjgmpaa.Pq

/-- How many are at place j of p, when c came. -/
def lv (p c j : Nat) : Nat := c / p + if j < c % p then 1 else 0
/-- The first k places, as loads. -/
def ll (p c k : Nat) : List (Int × Int) := (List.range k).map fun j => ((lv p c j : Int), 0)
/-- All places, as numbers. -/
def ys (p c : Nat) : List Value := (List.range p).map fun j => .int .i64 (lv p c j : Int)

theorem step_div {p c : Nat} (hp : 0 < p) : (c % p + 1 < p ∧ (c + 1) / p = c / p ∧ (c + 1) % p = c % p + 1) ∨ (c % p + 1 = p ∧ (c + 1) / p = c / p + 1 ∧ (c + 1) % p = 0) := by
  have h := Nat.div_add_mod c p
  have hr := Nat.mod_lt c hp
  by_cases h1 : c % p + 1 < p
  · refine .inl ⟨h1, ?_⟩
    exact (Nat.div_mod_unique hp).2 ⟨by omega, h1⟩
  · refine .inr ⟨by omega, ?_⟩
    refine (Nat.div_mod_unique hp).2 ⟨?_, hp⟩
    rw [Nat.mul_add]; omega

theorem lv_step {p c : Nat} (hp : 0 < p) (j : Nat) (hj : j < p) : lv p (c + 1) j = if j = c % p then lv p c j + 1 else lv p c j := by
  unfold lv
  rcases step_div (c := c) hp with ⟨h1, h2, h3⟩ | ⟨h1, h2, h3⟩ <;> rw [h2, h3] <;> repeat' split
  all_goals omega

theorem lv_le {p c m : Nat} (hp : 0 < p) (h : c ≤ p * m) (j : Nat) : lv p c j ≤ m := by
  have hd := Nat.div_add_mod c p
  have hr := Nat.mod_lt c hp
  unfold lv
  have h1 : c / p ≤ m := Nat.div_le_of_le_mul h
  by_cases h2 : c / p = m
  · rw [h2] at hd
    have : c % p = 0 := by omega
    rw [if_neg (by omega)]; omega
  · split <;> omega

theorem ys_step {p c : Nat} (hp : 0 < p) : ys p (c + 1) = (ys p c).set (c % p) (.int .i64 ((lv p c (c % p) : Int) + 1)) := by
  apply List.ext_getElem
  · simp [ys]
  · intro j h1 h2
    have hj : j < p := by simpa [ys] using h1
    simp only [ys, List.getElem_map, List.getElem_range, List.getElem_set]
    rw [lv_step hp j hj]
    by_cases e : j = c % p
    · rw [if_pos e, if_pos e.symm, e]; simp
    · rw [if_neg e, if_neg (fun h => e h.symm)]

theorem ys_get {p c j : Nat} (hj : j < p) : (ys p c)[j]? = some (.int .i64 (lv p c j : Int)) := by simp [ys, hj]
theorem ys_zero (p : Nat) : ys p 0 = List.replicate p (.int .i64 0) := by
  apply List.ext_getElem
  · simp [ys]
  · intro j h1 h2; simp [ys, lv]

theorem ll_len (p c k : Nat) : (ll p c k).length = k := by simp [ll]
theorem ll_snoc (p c k : Nat) : ll p c (k + 1) = ll p c k ++ [((lv p c k : Int), 0)] := by unfold ll; rw [List.range_succ, List.map_append]; rfl
theorem ll_get {p c k j : Nat} (hj : j < k) : ((ll p c k).map zb).getD j (0, 0) = (fl (lv p c j : Int), fl 0) := by
  simp [ll, zb, List.getD, hj]

theorem ll_whole {p c k j : Nat} (hp : 0 < p) {m : Nat} (h : c ≤ p * m) (hm : m ≤ 10) (hj : j < k) : whole (((ll p c k).map zb).getD j (0, 0)).1 = (lv p c j : Int) ∧ whole (((ll p c k).map zb).getD j (0, 0)).2 = 0 := by
  have := lv_le hp h j
  rw [ll_get hj]
  exact ⟨whole_fl (n := (lv p c j : Int)) (by omega) (by omega), whole_fl (n := 0) (by omega) (by omega)⟩

theorem spare_ll {p c m : Nat} (hp : 0 < p) (h : c ≤ p * m) (hm : m ≤ 10) (k : Nat) (hk : k ≤ p) : spareTo ((ll p c p).map zb) m k = (k * m : Nat) - ((k * (c / p) : Nat) + (min k (c % p) : Nat) : Int) := by
  induction k with
  | zero => simp [spareTo]
  | succ k ih =>
    have hw := (ll_whole (k := p) (j := k) hp h hm (by omega)).1
    have hl := lv_le hp h k
    rw [spareTo, ih (by omega), hw, cut_in (n := (m : Int)) (by omega) (by omega), Nat.add_mul, Nat.add_mul]
    unfold lv at *
    split <;> split at hl <;> omega

theorem spare_all {p c m : Nat} (hp : 0 < p) (h : c ≤ p * m) (hm : m ≤ 10) : spareTo ((ll p c p).map zb) m p = ((p * m : Nat) : Int) - c := by
  rw [spare_ll hp h hm p (Nat.le_refl _)]
  have hd := Nat.div_add_mod c p
  have hr := Nat.mod_lt c hp
  omega

theorem least_all {p c m : Nat} (hp : 0 < p) (h : c ≤ p * m) (hm : m ≤ 10) : leastTo ((ll p c p).map zb) m p = if c < p * m then ((c % p : Nat) : Int) else -1 := by
  have hr := Nat.mod_lt c hp
  have hd := Nat.div_add_mod c p
  have W := fun j (hj : j < p) => ll_whole (k := p) (j := j) hp h hm hj
  have L0 : lv p c (c % p) = c / p := by unfold lv; rw [if_neg (by omega)]; rfl
  rcases least_spec ((ll p c p).map zb) (m : Int) p with ⟨h1, h2⟩ | ⟨k, h1, hk, hroom, h2⟩
  · have := h2 _ hr
    unfold Room at this
    rw [(W _ hr).1, L0] at this
    rw [h1, if_neg]
    intro hc
    have : c / p < m := (Nat.div_lt_iff_lt_mul hp).2 (by rw [Nat.mul_comm]; exact hc)
    omega
  · unfold Room at hroom h2
    rw [(W _ hk).1] at hroom
    have Lk : lv p c k = c / p + if k < c % p then 1 else 0 := rfl
    have hm' : c / p < m := by split at Lk <;> omega
    have hc : c < p * m := by have := (Nat.div_lt_iff_lt_mul hp).1 hm'; rwa [Nat.mul_comm] at this
    obtain ⟨h3, h4⟩ := h2 (c % p) hr (by rw [(W _ hr).1, L0]; omega)
    rw [ls_not, (W _ hr).1, (W _ hr).2, (W _ hk).1, (W _ hk).2, L0] at h3
    rw [ls_iff, (W _ hr).1, (W _ hr).2, (W _ hk).1, (W _ hk).2, L0] at h4
    rw [h1, if_pos hc]
    have : k = c % p := by
      rcases Nat.lt_trichotomy k (c % p) with h5 | h5 | h5
      · rw [if_pos h5] at Lk; omega
      · exact h5
      · have := h4 h5; rw [if_neg (by omega)] at Lk; omega
    rw [this]
end Go.Proofs.Ytnlfocmmnjgmpaa.Pe0
