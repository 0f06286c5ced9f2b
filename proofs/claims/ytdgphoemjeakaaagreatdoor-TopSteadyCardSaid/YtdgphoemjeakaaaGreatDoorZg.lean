/- The whole service as plain functions: where the same is measured at every tick. -/
import Derived.Test.YtdgphoemjeakaaaGreatDoorQ11
namespace Go.Proofs.YtdgphoemjeakaaaGreatDoor.V
open Go.Proofs.YtdgphoemjeakaaaGreatDoor
open Go.Proofs.YtdgphoemjeakaaaGreatDoor.M (Pod)

/-- Pods, how many were made, who waits, the requests, the time. -/
structure Core where
  pods : List Pod
  made : Int
  q : List (Int × Int)
  rs : List Req
  now : Int
def core (s : Sys) : Core := ⟨s.pods, s.made, s.q, s.rs, s.now⟩
/-- A tick, where it is known how many pods are wanted. -/
def ltick (li rd : Int) (W : Nat) (x : Core) : Core :=
  let now := x.now + 1
  let late := x.q.takeWhile (B.late now 60)
  let y := M.scale W now (x.pods.map (M.ripe now rd)) x.made
  let z := sentGo li now (x.q.dropWhile (B.late now 60)) y.1 (late.foldl (fun rs x => stand now 4 rs x.1) x.rs)
  ⟨z.2.1, y.2, z.1, z.2.2, now⟩
/-- What is measured at the next tick. -/
def lscr (rd : Int) (x : Core) : Int := scrape (x.pods.map (M.ripe (x.now + 1) rd)) (x.now + 1) (x.q.dropWhile (B.late (x.now + 1) 60)).length
/-- How many are ready at the next tick. -/
def lready (rd : Int) (x : Core) : Int := (M.ready (x.pods.map (M.ripe (x.now + 1) rd))).length

/-- The same was measured ever since; as many were wanted. -/
structure Same (X W : Int) (s : Sys) : Prop where
  b0 : ∀ b, b ∈ s.b0 → b.2 = X
  b1 : ∀ b, b ∈ s.b1 → b.2 = X
  wl : ∀ x, x ∈ s.wl → x.1 ≤ s.now
  mo : 0 ≤ s.mo ∧ s.mo ≤ W
  lost : s.lost = 0
theorem sum_same (n t X : Int) : ∀ (bs : List (Int × Int)), (∀ b, b ∈ bs → b.2 = X) → R.sumB n t bs = X * R.numB n t bs := by
  intro bs h
  have e : ∀ (l : List (Int × Int)) (a : Int), (∀ b, b ∈ l → b.2 = X) → (l.map Prod.snd).foldl (· + ·) a = a + X * l.length := by
    intro l
    induction l with
    | nil => intro a _; simp
    | cons b l ih =>
      intro a hb
      rw [List.map_cons, List.foldl_cons, ih _ fun c hc => hb c (List.mem_cons_of_mem _ hc), hb b List.mem_cons_self, List.length_cons]
      push_cast
      rw [Int.mul_add, Int.mul_one]
      omega
  unfold R.sumB R.numB
  rw [e _ 0 fun b hb => h b (List.mem_filter.1 hb).1]
  omega
theorem mean_same {n t X : Int} {bs : List (Int × Int)} (h : ∀ b, b ∈ bs → b.2 = X) (n0 : 0 < n) : R.meanB n t (Me.putB n t X bs) = X := by
  have hv : ∀ b, b ∈ Me.putB n t X bs → b.2 = X := fun b hb => by
    rcases List.mem_append.1 hb with hb | hb
    · exact h b (List.mem_filter.1 hb).1
    · rw [List.mem_singleton.1 hb]
  have hn : 0 < R.numB n t (Me.putB n t X bs) := by
    unfold Me.putB
    rw [R.numB_snoc, if_pos (by unfold R.lies; simp; omega)]
    have := (R.numB_bd n t (bs.filter fun b => !decide (n ≤ t - b.1))).1
    omega
  unfold R.meanB
  rw [if_neg (by omega), sum_same n t X _ hv, Int.mul_ediv_cancel _ (by omega)]
theorem most_now (t n : Int) (l : List (Int × Int)) (h : ∀ x, x ∈ l → x.1 < t) (n0 : 0 ≤ n) : Dl.mostD t (G.kept (Dl.far t) l ++ [(t, n)]) = n := by
  rw [Dl.mostD_snoc, if_pos (Int.le_refl _)]
  have e : Dl.mostD t (G.kept (Dl.far t) l) = 0 := by
    unfold Dl.mostD G.kept
    rw [List.filter_filter, List.filter_eq_nil_iff.2 fun x hx => ?_]
    · rfl
    · have := h x hx
      simp
      intro h2
      omega
  rw [e]
  exact Int.max_eq_right n0

set_option maxRecDepth 4000 in
theorem tick_same {bu li rd X W : Int} {s : Sys} (h : Same X W s) (hx : lscr rd (core s) = X) (hl : P.limit (P.wantOf X) (lready rd (core s)) = W) (w1 : 1 ≤ W) (w2 : W ≤ 100) :
    Same X W (tick bu li rd s) ∧ (tick bu li rd s).want = W ∧ core (tick bu li rd s) = ltick li rd W.toNat (core s) ∧
    (tick bu li rd s).si = (P.nextMode s.si s.mo (s.now + 1) (P.over (P.wantOf X) (lready rd (core s)))).1 ∧ (tick bu li rd s).ld.panic = decide (0 ≤ (tick bu li rd s).si) := by
  have e1 : tick1 rd s = { s with now := s.now + 1, q := s.q.dropWhile (B.late (s.now + 1) 60), rs := (s.q.takeWhile (B.late (s.now + 1) 60)).foldl (fun rs x => stand (s.now + 1) 4 rs x.1) s.rs, pods := s.pods.map (M.ripe (s.now + 1) rd), b0 := Me.putB 60 (s.now + 1) X s.b0, b1 := Me.putB 6 (s.now + 1) X s.b1, nw := s.now + 1 } := by
    unfold tick1
    rw [if_neg (by rw [h.lost]; decide)]
    show _ = _
    rw [← hx]
    rfl
  have m0 := mean_same (t := s.now + 1) h.b0 (n := 60) (by decide)
  have m1 := mean_same (t := s.now + 1) h.b1 (n := 6) (by decide)
  obtain ⟨r, hr⟩ : ∃ r, lready rd (core s) = r := ⟨_, rfl⟩
  have hr2 : ((M.ready (s.pods.map (M.ripe (s.now + 1) rd))).length : Int) = r := hr
  rw [hr] at hl
  obtain ⟨md, hmd⟩ : ∃ md, P.nextMode s.si s.mo (s.now + 1) (P.over (P.wantOf X) r) = md := ⟨_, rfl⟩
  have hmo : 0 ≤ md.2 ∧ md.2 ≤ W := by
    have := h.mo
    rw [← hmd]
    unfold P.nextMode
    repeat' split
    all_goals simp
    all_goals omega
  have hn1 : (if 0 ≤ md.1 then max W W else W) = W := by split <;> simp
  have hmost := most_now (s.now + 1) W s.wl (fun x hx => by have := h.wl x hx; omega) (by omega)
  have hk : P.keep md.1 md.2 W = (if 0 ≤ md.1 then W else md.2, W) := by
    unfold P.keep
    split
    · rw [Int.max_eq_right hmo.2]
    · rfl
  obtain ⟨dn, hdn⟩ : ∃ dn, De.nextD bu li (Me.putB 60 (s.now + 1) X s.b0) (Me.putB 6 (s.now + 1) X s.b1) s.wl s.si s.mo (s.now + 1) r = dn := ⟨_, rfl⟩
  have d1 : dn.want = W := by
    rw [← hdn]
    simp only [De.nextD, m0, m1, hmd, hl, hn1, hmost, hk]
    omega
  have d2 : dn.since = md.1 := by
    rw [← hdn]
    simp only [De.nextD, m0, m1, hmd]
  have d3 : 0 ≤ dn.most ∧ dn.most ≤ W := by
    rw [← hdn]
    simp only [De.nextD, m0, m1, hmd, hl, hn1, hmost, hk]
    split <;> omega
  have d4 : ∀ x, x ∈ dn.l → x.1 ≤ s.now + 1 := by
    rw [← hdn]
    intro x hx
    simp only [De.nextD] at hx
    rcases List.mem_append.1 hx with hx | hx
    · have := h.wl x (List.mem_filter.1 hx).1
      omega
    · rw [List.mem_singleton.1 hx]
      exact Int.le_refl _
  have d5 : dn.panic = decide (0 ≤ md.1) := by
    rw [← hdn]
    simp only [De.nextD, m0, m1, hmd]
  have e2 : (tick2 bu li (tick1 rd s)).want = W := by
    rw [e1]
    show P.wantAt _ _ (De.nextD bu li (Me.putB 60 (s.now + 1) X s.b0) (Me.putB 6 (s.now + 1) X s.b1) s.wl s.si s.mo (s.now + 1) (M.ready (s.pods.map (M.ripe (s.now + 1) rd))).length).want _ _ _ _ = W
    rw [hr2, hdn, d1]
    unfold P.wantAt
    rw [if_pos (by omega)]
  have e3 : ∀ u : Sys, u.want = W → core (sent li (tick3 u)) = (let y := M.scale W.toNat u.now u.pods u.made
      let z := sentGo li u.now u.q y.1 u.rs
      ⟨z.2.1, y.2, z.1, z.2.2, u.now⟩) := by
    intro u hu
    unfold tick3
    rw [hu, Int.min_eq_left w2]
    rfl
  have f5 : (tick bu li rd s).si = md.1 := by
    show (tick2 bu li (tick1 rd s)).si = _
    rw [e1]
    show (De.nextD bu li (Me.putB 60 (s.now + 1) X s.b0) (Me.putB 6 (s.now + 1) X s.b1) s.wl s.si s.mo (s.now + 1) (M.ready (s.pods.map (M.ripe (s.now + 1) rd))).length).since = _
    rw [hr2, hdn, d2]
  refine ⟨⟨?_, ?_, ?_, ?_, ?_⟩, e2, ?_, ?_, ?_⟩
  · show ∀ b, b ∈ (tick1 rd s).b0 → b.2 = X
    rw [e1]
    intro b hb
    rcases List.mem_append.1 hb with hb | hb
    · exact h.b0 b (List.mem_filter.1 hb).1
    · rw [List.mem_singleton.1 hb]
  · show ∀ b, b ∈ (tick1 rd s).b1 → b.2 = X
    rw [e1]
    intro b hb
    rcases List.mem_append.1 hb with hb | hb
    · exact h.b1 b (List.mem_filter.1 hb).1
    · rw [List.mem_singleton.1 hb]
  · show ∀ x, x ∈ (tick2 bu li (tick1 rd s)).wl → x.1 ≤ (tick1 rd s).now
    rw [e1]
    show ∀ x, x ∈ (De.nextD bu li (Me.putB 60 (s.now + 1) X s.b0) (Me.putB 6 (s.now + 1) X s.b1) s.wl s.si s.mo (s.now + 1) (M.ready (s.pods.map (M.ripe (s.now + 1) rd))).length).l → x.1 ≤ s.now + 1
    rw [hr2, hdn]
    exact d4
  · show 0 ≤ (tick2 bu li (tick1 rd s)).mo ∧ (tick2 bu li (tick1 rd s)).mo ≤ W
    rw [e1]
    show 0 ≤ (De.nextD bu li (Me.putB 60 (s.now + 1) X s.b0) (Me.putB 6 (s.now + 1) X s.b1) s.wl s.si s.mo (s.now + 1) (M.ready (s.pods.map (M.ripe (s.now + 1) rd))).length).most ∧ (De.nextD bu li (Me.putB 60 (s.now + 1) X s.b0) (Me.putB 6 (s.now + 1) X s.b1) s.wl s.si s.mo (s.now + 1) (M.ready (s.pods.map (M.ripe (s.now + 1) rd))).length).most ≤ W
    rw [hr2, hdn]
    exact d3
  · show (tick1 rd s).lost = 0
    rw [e1]
    exact h.lost
  · show core (sent li (tick3 (tick2 bu li (tick1 rd s)))) = _
    rw [e3 _ e2, e1]
    rfl
  · rw [f5, hr, hmd]
  · rw [f5, ← d5, ← hdn, ← hr2]
    show (tick2 bu li (tick1 rd s)).ld.panic = _
    rw [e1]
    rfl
end Go.Proofs.YtdgphoemjeakaaaGreatDoor.V
