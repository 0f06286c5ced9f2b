/- The whole service as plain functions: TopSteady's law. -/
import Derived.Test.YtdgphoemjeakaaaGreatDoorZg
namespace Go.Proofs.YtdgphoemjeakaaaGreatDoor.V
open Go.Proofs.YtdgphoemjeakaaaGreatDoor
open Go.Proofs.YtdgphoemjeakaaaGreatDoor.M (Pod)

theorem Same.arrive {X W li : Int} {s : Sys} (h : Same X W s) : Same X W (arrive li s) := by
  have e : ∀ u : Sys, Same X W u → Same X W (sent li u) := fun u hu => ⟨hu.b0, hu.b1, hu.wl, hu.mo, hu.lost⟩
  refine e _ ?_
  unfold come
  split <;> exact ⟨h.b0, h.b1, h.wl, h.mo, h.lost⟩
theorem Same.arrives {X W li : Int} : ∀ (n : Nat) {s : Sys}, Same X W s → Same X W (arrives li n s)
  | 0, _, h => h
  | n + 1, _, h => Same.arrives n h.arrive
theorem Same.new {X W : Int} (w0 : 0 ≤ W) (bu ini li : Int) : Same X W (new bu ini li) :=
  ⟨fun _ hb => absurd hb List.not_mem_nil, fun _ hb => absurd hb List.not_mem_nil, fun _ hx => absurd hx List.not_mem_nil, ⟨Int.le_refl _, w0⟩, rfl⟩
theorem arrives_si (li : Int) : ∀ (n : Nat) (s : Sys), (arrives li n s).si = s.si
  | 0, _ => rfl
  | n + 1, s => by
    show (arrives li n (arrive li s)).si = _
    rw [arrives_si li n]
    show (come s).si = _
    unfold come
    split <;> rfl

/-- So many ticks, looked at on the way. -/
def good (li rd X : Int) (W : Nat) : Nat → Core → Option Core
  | 0, c => some c
  | n + 1, c => if decide (lscr rd c = X) && decide (P.limit (P.wantOf X) (lready rd c) = W) then good li rd X W n (ltick li rd W c) else none
/-- Nothing changes any more. -/
def still (li rd X : Int) (W : Nat) (k : Int) (c : Core) : Bool :=
  c.q.isEmpty && (c.pods.all fun p => p.st == 2) && decide (c.pods.length = W) && decide (ends c.rs 2 = k) && decide (P.limit (P.wantOf X) W = W) && !(P.over (P.wantOf X) W) && ((List.range 6).all fun (r : Nat) => decide (scrape c.pods r 0 = X)) && decide (c.now = 12) && decide (0 ≤ li) && decide (0 ≤ rd)
def aim (k : Nat) : Int := (1000 * (k : Int) + 6999) / 7000
def check (k rd : Nat) : Bool := match good 10 rd (1000 * k) (aim k).toNat 12 (core (arrives 10 k (new 20000 1 10))) with
  | some c => still 10 rd (1000 * k) (aim k).toNat k c
  | none => false
set_option maxRecDepth 100000 in
theorem check_all : ((List.range 21).all fun k => (List.range 11).all fun rd => check (k + 1) rd) = true := by decide +kernel

theorem ticks_last (bu li rd : Int) : ∀ (n : Nat) (s : Sys), ticks bu li rd (n + 1) s = tick bu li rd (ticks bu li rd n s)
  | 0, _ => rfl
  | n + 1, s => by
    show ticks bu li rd (n + 1) (tick bu li rd s) = _
    rw [ticks_last bu li rd n]
    rfl
theorem mode_le {since most now : Int} {over : Bool} (h : since ≤ now) : (P.nextMode since most now over).1 ≤ now := by
  unfold P.nextMode
  repeat' split
  all_goals simp
  all_goals omega
theorem good_ticks {bu li rd X : Int} {W : Nat} (w1 : 1 ≤ W) (w2 : W ≤ 100) : ∀ (n : Nat) (s : Sys) (c : Core), Same X W s → s.si ≤ s.now → good li rd X W n (core s) = some c → Same X W (ticks bu li rd n s) ∧ (ticks bu li rd n s).si ≤ (ticks bu li rd n s).now ∧ core (ticks bu li rd n s) = c
  | 0, s, c, h, hs, hg => ⟨h, hs, Option.some.inj hg⟩
  | n + 1, s, c, h, hs, hg => by
    unfold good at hg
    by_cases hc : (decide (lscr rd (core s) = X) && decide (P.limit (P.wantOf X) (lready rd (core s)) = W)) = true
    · rw [if_pos hc] at hg
      simp only [Bool.and_eq_true, decide_eq_true_eq] at hc
      obtain ⟨t1, t2, t3, t4, t5⟩ := tick_same (bu := bu) (li := li) h hc.1 hc.2 (by omega) (by omega)
      rw [Int.toNat_natCast] at t3
      rw [← t3] at hg
      refine good_ticks w1 w2 n (tick bu li rd s) c t1 ?_ hg
      have hn : (tick bu li rd s).now = s.now + 1 := tick_now bu li rd s
      rw [t4, hn]
      exact mode_le (by omega)
    · rw [if_neg hc] at hg
      cases hg
theorem which_mod (ids : List Int) (r : Int) (h : ids.length = 1 ∨ ids.length = 2 ∨ ids.length = 3) : S.which ids r = S.which ids (r % 6) := by
  have e : ∀ i, S.whichAt ids r i = S.whichAt ids (r % 6) i := fun i => by
    unfold S.whichAt
    have : r % (ids.length : Int) = (r % 6) % (ids.length : Int) := by
      rcases h with h | h | h <;> rw [h]
      · omega
      · omega
      · omega
    rw [this]
  unfold S.which
  exact List.map_congr_left fun i _ => e i
theorem spread_load (l l' : List S.Stat) (n : Int) (h : l.map S.Stat.load = l'.map S.Stat.load) : S.spread l n = S.spread l' n := by
  have hl : l.length = l'.length := by
    have := congrArg List.length h
    simpa using this
  unfold S.spread S.sum
  rw [h, hl]
theorem stats_load (ps : List Pod) (now : Int) : (stats ps now).map S.Stat.load = (S.which (M.ready ps) now).flatMap fun id => (ps.filter fun q => q.id == id).map fun q => q.busy * 1000 := by
  unfold stats
  rw [List.map_flatMap]
  congr 1
  funext id
  rw [List.map_map]
  rfl
theorem scrape_mod (ps : List Pod) (now waits : Int) (h : (M.ready ps).length = 1 ∨ (M.ready ps).length = 2 ∨ (M.ready ps).length = 3) : scrape ps now waits = scrape ps (now % 6) waits := by
  unfold scrape
  rw [spread_load (stats ps now) (stats ps (now % 6)) _ (by rw [stats_load, stats_load, which_mod _ now h])]
/-- A core that stands still. -/
structure Still (li rd X : Int) (W : Nat) (c : Core) : Prop where
  q : c.q = []
  st : ∀ p, p ∈ c.pods → p.st = 2
  len : c.pods.length = W
  lim : P.limit (P.wantOf X) W = W
  over : P.over (P.wantOf X) W = false
  scr : ∀ r : Nat, r < 6 → scrape c.pods r 0 = X
  w : 1 ≤ W ∧ W ≤ 3
theorem ready_all : ∀ (ps : List Pod), (∀ p, p ∈ ps → p.st = 2) → M.ready ps = ps.map Pod.id ∧ M.count ps = ps.length
  | [], _ => ⟨rfl, rfl⟩
  | p :: ps, h => by
    obtain ⟨h1, h2⟩ := ready_all ps fun q hq => h q (List.mem_cons_of_mem _ hq)
    have hp := h p List.mem_cons_self
    refine ⟨?_, ?_⟩
    · unfold M.ready at h1 ⊢
      rw [List.filter_cons, if_pos (by rw [hp]; rfl), List.map_cons, h1]
      rfl
    · rw [M.count_cons, if_pos (by rw [hp]; rfl), h2, List.length_cons]
      omega
theorem ripe_all (now rd : Int) : ∀ (ps : List Pod), (∀ p, p ∈ ps → p.st = 2) → ps.map (M.ripe now rd) = ps
  | [], _ => rfl
  | p :: ps, h => by
    rw [List.map_cons, ripe_all now rd ps fun q hq => h q (List.mem_cons_of_mem _ hq)]
    have hp := h p List.mem_cons_self
    have e : M.ripe now rd p = p := by
      unfold M.ripe
      rw [hp]
      rfl
    rw [e]
theorem Still.step {li rd X : Int} {W : Nat} {c : Core} (h : Still li rd X W c) (n0 : 0 ≤ c.now) : lscr rd c = X ∧ lready rd c = W ∧ ltick li rd W c = { c with now := c.now + 1 } := by
  obtain ⟨hr, hc⟩ := ready_all c.pods h.st
  have hw := h.w
  have hrl : (M.ready c.pods).length = W := by rw [hr, List.length_map, h.len]
  refine ⟨?_, ?_, ?_⟩
  · unfold lscr
    rw [ripe_all _ _ _ h.st, h.q]
    show scrape c.pods (c.now + 1) 0 = X
    rw [scrape_mod _ _ _ (by omega)]
    have := h.scr ((c.now + 1) % 6).toNat (by omega)
    rwa [Int.toNat_of_nonneg (by omega)] at this
  · unfold lready
    rw [ripe_all _ _ _ h.st, hrl]
  · simp only [ltick]
    rw [ripe_all _ _ _ h.st, h.q]
    have e : M.scale W (c.now + 1) c.pods c.made = (c.pods, c.made) := by
      unfold M.scale
      rw [hc, h.len, Nat.sub_self]
      show (M.fewer (c.now + 1) (M.count c.pods - W) c.pods, c.made) = _
      rw [hc, h.len, Nat.sub_self]
      rfl
    rw [e]
    obtain ⟨ps, md, q, rs, nw⟩ := c
    have hq : q = [] := h.q
    subst hq
    rfl
theorem still_ticks {bu li rd X : Int} {W : Nat} : ∀ (n : Nat) (s : Sys), Same X W s → Still li rd X W (core s) → 0 ≤ s.now → s.si ≤ 12 →
    Same X W (ticks bu li rd n s) ∧ core (ticks bu li rd n s) = { core s with now := s.now + n } ∧ (ticks bu li rd n s).si ≤ 12 ∧ (0 < n → (ticks bu li rd n s).want = W ∧ (ticks bu li rd n s).ld.panic = decide (0 ≤ (ticks bu li rd n s).si) ∧ (0 ≤ (ticks bu li rd n s).si → s.now + n - (ticks bu li rd n s).si < 60))
  | 0, s, h, _, _, hi => ⟨h, by show core s = _; simp [core], hi, fun h => absurd h (by omega)⟩
  | n + 1, s, h, hS, n0, hi => by
    obtain ⟨g1, g2, g3, _⟩ := still_ticks n s h hS n0 hi
    rw [ticks_last]
    obtain ⟨u, hu⟩ : ∃ u, ticks bu li rd n s = u := ⟨_, rfl⟩
    rw [hu] at g1 g2 g3
    rw [hu]
    have hS2 : Still li rd X W (core u) := by
      rw [g2]
      exact ⟨hS.q, hS.st, hS.len, hS.lim, hS.over, hS.scr, hS.w⟩
    have hun : u.now = s.now + n := congrArg Core.now g2
    have hw := hS.w
    obtain ⟨k1, k2, k3⟩ := hS2.step (by show 0 ≤ u.now; omega)
    obtain ⟨t1, t2, t3, t4, t5⟩ := tick_same (bu := bu) (li := li) g1 k1 (by rw [k2]; exact hS.lim) (by omega) (by omega)
    rw [Int.toNat_natCast, k3, g2] at t3
    rw [k2, hS.over] at t4
    have hsi : (tick bu li rd u).si ≤ 12 ∧ (0 ≤ (tick bu li rd u).si → s.now + ((n + 1 : Nat) : Int) - (tick bu li rd u).si < 60) := by
      rw [t4]
      unfold P.nextMode
      rw [if_neg (by decide)]
      split
      · exact ⟨by decide, fun h => absurd h (by decide)⟩
      · rename_i hx
        refine ⟨g3, fun h0 => ?_⟩
        have h0' : 0 ≤ u.si := h0
        show s.now + ((n + 1 : Nat) : Int) - u.si < 60
        rw [not_and] at hx
        have := hx h0'
        omega
    refine ⟨t1, ?_, hsi.1, fun _ => ⟨t2, t5, hsi.2⟩⟩
    rw [t3]
    simp [Int.add_assoc]
end Go.Proofs.YtdgphoemjeakaaaGreatDoor.V
