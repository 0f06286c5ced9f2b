/- Two windows of whatever numbers: New, of, Put, Means, Over. delay with any span. queue.Depth. -/
import Derived.Test.YtdgphoemjeakaaaGreatDoorR15
import Derived.Test.YtdgphoemjeakaaaGreatDoorR03
import Derived.Test.YtdgphoemjeakaaaGreatDoorR01
import Derived.Test.YtdgphoemjeakaaaGreatDoorR05
namespace Go.Proofs.YtdgphoemjeakaaaGreatDoor.Wg
open Me (mw bld)
open Go.RowKit K P U Mg Wk
open Wr (Ring)
set_option maxRecDepth 100000
@[go_sem] theorem bldv132 (v : Nat → Int) (t t' : TypeId) (x x' : Value) (w : World) : bld 132 #[(0, .agg (cf v)), (1, .agg #[.iface t x, .iface t' x'])] w = .ok (.value (.agg (mw (cf v) [.iface t x, .iface t' x', .bool false]))) w := by
  kernel_rfl
def mcv (v : Nat → Int) (r0 r1 : Nat) (ov : Bool) : Array Value := mw (cf v) [.iface 128 (.pointer (some ⟨r0, 0, none⟩)), .iface 128 (.pointer (some ⟨r1, 0, none⟩)), .bool ov]
theorem mcv_20 (v : Nat → Int) (r0 r1 : Nat) (ov : Bool) : (mcv v r0 r1 ov)[20]? = some (.iface 128 (.pointer (some ⟨r0, 0, none⟩))) := rfl
theorem mcv_21 (v : Nat → Int) (r0 r1 : Nat) (ov : Bool) : (mcv v r0 r1 ov)[21]? = some (.iface 128 (.pointer (some ⟨r1, 0, none⟩))) := rfl
theorem mcv_22 (v : Nat → Int) (r0 r1 : Nat) (ov : Bool) : (mcv v r0 r1 ov)[22]? = some (.bool ov) := rfl
def M2 (v : Nat → Int) (m r0 r1 : Nat) (ov : Bool) (k0 k1 : Nat) : Rep := Two (One m (mcv v r0 r1 ov) 132) (Two (Ring (v 4) k0 r0) (Ring (v 4) k1 r1))
def Met (v : Nat → Int) (m k : Nat) : Rep := fun w S => ∃ r0 r1 ov, M2 v m r0 r1 ov k k w S
section
variable {v : Nat → Int} {m r0 r1 k0 k1 k : Nat} {ov : Bool} {w : World} {S : Nat → Prop}
theorem M2.good : U.Good (M2 v m r0 r1 ov k0 k1) := Two.good (One.good _ _ _) (Two.good Wr.Ring.good Wr.Ring.good)
theorem M2.wide : U.Wide (M2 v m r0 r1 ov k0 k1) := Two.wide
theorem Met.good : U.Good (Met v m k) := ⟨fun ⟨r0, r1, ov, h⟩ c hd => ⟨r0, r1, ov, M2.good.chg h c hd⟩, fun ⟨_, _, _, h⟩ => h.1⟩
theorem Met.wide : U.Wide (Met v m k) := ⟨fun ⟨r0, r1, ov, h⟩ hs hb => ⟨r0, r1, ov, M2.wide.mono h hs hb⟩⟩
theorem M2.blk (h : M2 v m r0 r1 ov k0 k1 w S) : Blk w m (mcv v r0 r1 ov) 132 := by
  obtain ⟨A, h1, _⟩ := Two.left (Two.good Wr.Ring.good Wr.Ring.good) h
  exact h1.2.2
theorem M2.own (h : M2 v m r0 r1 ov k0 k1 w S) : S m := by
  obtain ⟨A, h1, h2, _⟩ := Two.left (Two.good Wr.Ring.good Wr.Ring.good) h
  exact h2 _ h1.2.1
theorem M2.ring0 (h : M2 v m r0 r1 ov k0 k1 w S) : ∃ A : Nat → Prop, Ring (v 4) k0 r0 w A ∧ (∀ g, A g → S g) ∧ ∀ (k' : Nat) (w' : World), Ring (v 4) k' r0 w' (K.nx A w w') → Chg A w w' → M2 v m r0 r1 ov k' k1 w' (K.nx S w w') ∧ Chg S w w' := by
  obtain ⟨B, hq, hB, back⟩ := Two.right (One.good _ _ _) h
  obtain ⟨A, hr, hA, back2⟩ := Two.left Wr.Ring.good hq
  refine ⟨A, hr, fun g hg => hB g (hA g hg), fun k' w' hr' hc => ?_⟩
  obtain ⟨g1, g2⟩ := back2 (Ring (v 4) k' r0) w' hr' hc
  exact back _ w' g1 g2
theorem M2.ring1 (h : M2 v m r0 r1 ov k0 k1 w S) : ∃ A : Nat → Prop, Ring (v 4) k1 r1 w A ∧ (∀ g, A g → S g) ∧ ∀ (k' : Nat) (w' : World), Ring (v 4) k' r1 w' (K.nx A w w') → Chg A w w' → M2 v m r0 r1 ov k0 k' w' (K.nx S w w') ∧ Chg S w w' := by
  obtain ⟨B, hq, hB, back⟩ := Two.right (One.good _ _ _) h
  obtain ⟨A, hr, hA, back2⟩ := Two.right Wr.Ring.good hq
  refine ⟨A, hr, fun g hg => hB g (hA g hg), fun k' w' hr' hc => ?_⟩
  obtain ⟨g1, g2⟩ := back2 (Ring (v 4) k' r1) w' hr' hc
  exact back _ w' g1 g2
theorem M2.cell (h : M2 v m r0 r1 ov k0 k1 w S) (j : Nat) (u : Value) {v' : Nat → Int} {ov' : Bool} (h4 : v' 4 = v 4) (he : (mcv v r0 r1 ov).setIfInBounds j u = mcv v' r0 r1 ov') : M2 v' m r0 r1 ov' k0 k1 (w.setCell ⟨m, j, none⟩ u) (K.nx S w (w.setCell ⟨m, j, none⟩ u)) := by
  obtain ⟨A, h1, h2, back⟩ := Two.left (Two.good Wr.Ring.good Wr.Ring.good) h
  have c : Chg A w (w.setCell ⟨m, j, none⟩ u) := (Chg.refl A w).set (a := ⟨m, j, none⟩) (fun _ => h1.2.1) u
  have := (back (One m (mcv v' r0 r1 ov') 132) _ ⟨fun k hk => hk.2, ⟨.inl h1.2.1, by simpa [World.setCell] using h1.2.2.lt⟩, he ▸ h1.2.2.set j u⟩ c).1
  unfold M2
  rw [h4]
  exact this
end
set_option maxHeartbeats 1000000 in
theorem of_0 (v : Nat → Int) (m r0 r1 : Nat) (ov : Bool) (w : World) (h : Blk w m (mcv v r0 r1 ov) 132) : Calls Tryz.prog 105 #[.pointer (some ⟨m, 0, none⟩), .int .i64 0] w fun e w' => e = .returned (.pointer (some ⟨r0, 0, none⟩)) ∧ Chg No w w' := by
  have c := Blk.cell h 20
  rw [mcv_20] at c
  clear h
  go_enter Tryz.func105, Tryz.ntmps105
  go_wp2
  go_ret
  exact ⟨rfl, Chg.refl _ _⟩
set_option maxHeartbeats 1000000 in
theorem of_1 (v : Nat → Int) (m r0 r1 : Nat) (ov : Bool) (w : World) (h : Blk w m (mcv v r0 r1 ov) 132) : Calls Tryz.prog 105 #[.pointer (some ⟨m, 0, none⟩), .int .i64 1] w fun e w' => e = .returned (.pointer (some ⟨r1, 0, none⟩)) ∧ Chg No w w' := by
  have c := Blk.cell h 21
  rw [mcv_21] at c
  clear h
  go_enter Tryz.func105, Tryz.ntmps105
  go_wp2
  go_ret
  exact ⟨rfl, Chg.refl _ _⟩
set_option maxHeartbeats 1000000 in
theorem put_m (v : Nat → Int) (m k : Nat) (t val : Int) (w : World) (S : Nat → Prop) (h : Met v m k w S) (g0 : 1 ≤ v 4) (hk : k + 1 ≤ 1099511627776) (t0 : 0 ≤ t) (t1 : t ≤ 1099511627776) :
    Calls Tryz.prog 90 #[.pointer (some ⟨m, 0, none⟩), .int .i64 t, .int .i64 val] w fun e w' => ∃ c : Int, e = .returned (.int .i64 c) ∧ Met v m (k + 1) w' (K.nx S w w') ∧ Chg S w w' := by
  obtain ⟨r0, r1, ov, h⟩ := h
  have H := Lib.hid h
  clear h
  go_enter Tryz.func90, Tryz.ntmps90
  go_wp2_with fail
  refine (of_0 v m r0 r1 ov w H.out.blk).mono ?_
  rintro e w1 ⟨rfl, hc1⟩
  have H1 := Lib.hid (M2.wide.nx M2.good H.out hc1)
  have C1 := Lib.hid (hc1.of_no (S := S))
  clear H hc1
  go_wp2_with fail
  obtain ⟨A, hr, -, back⟩ := H1.out.ring0
  refine (Wr.put_w w1 A r0 k (v 4) t val hr g0 hk t0 t1).mono ?_
  rintro e w2 ⟨c, rfl, hr2, hc2⟩
  obtain ⟨h2, hc2⟩ := back _ _ hr2 hc2
  have H2 := Lib.hid (M2.wide.nn h2 C1.out.size)
  have C2 := Lib.hid (C1.out.next hc2)
  clear H1 C1 h2 hc2 back hr hr2
  go_wp2_with fail
  refine (of_1 v m r0 r1 ov w2 H2.out.blk).mono ?_
  rintro e w3 ⟨rfl, hc3⟩
  have H3 := Lib.hid (M2.wide.nn (M2.wide.nx M2.good H2.out hc3) C2.out.size)
  have C3 := Lib.hid (C2.out.trans hc3.of_no)
  clear H2 C2 hc3
  go_wp2_with fail
  obtain ⟨A, hr, -, back⟩ := H3.out.ring1
  refine (Wr.put_w w3 A r1 k (v 4) t val hr g0 hk t0 t1).mono ?_
  rintro e w4 ⟨c, rfl, hr2, hc4⟩
  obtain ⟨h4, hc4⟩ := back _ _ hr2 hc4
  have H4 := Lib.hid (M2.wide.nn h4 C3.out.size)
  have C4 := Lib.hid (C3.out.next hc4)
  clear H3 C3 h4 hc4 back hr hr2
  go_wp2_with fail
  go_ret
  exact ⟨_, rfl, ⟨r0, r1, ov, H4.out⟩, C4.out⟩
set_option maxHeartbeats 1000000 in
theorem means_m (v : Nat → Int) (m k : Nat) (t : Int) (w : World) (S : Nat → Prop) (h : Met v m k w S) (g0 : 1 ≤ v 4) (hk : k + 1 ≤ 1099511627776) (t0 : 0 ≤ t) (t1 : t ≤ 1099511627776) :
    Calls Tryz.prog 94 #[.pointer (some ⟨m, 0, none⟩), .int .i64 t] w fun e w' => ∃ a b : Int, e = .returned (.tuple #[.int .i64 a, .int .i64 b]) ∧ Met v m k w' (K.nx S w w') ∧ Chg S w w' := by
  obtain ⟨r0, r1, ov, h⟩ := h
  have H := Lib.hid h
  clear h
  go_enter Tryz.func94, Tryz.ntmps94
  go_wp2_with fail
  refine (of_0 v m r0 r1 ov w H.out.blk).mono ?_
  rintro e w1 ⟨rfl, hc1⟩
  have H1 := Lib.hid (M2.wide.nx M2.good H.out hc1)
  have C1 := Lib.hid (hc1.of_no (S := S))
  clear H hc1
  go_wp2_with fail
  obtain ⟨A, hr, -, back⟩ := H1.out.ring0
  refine (Wr.mean_w w1 A r0 k (v 4) t hr g0 hk t0 t1).mono ?_
  rintro e w2 ⟨a, rfl, hr2, hc2⟩
  obtain ⟨h2, hc2⟩ := back _ _ (Wr.Ring.wide.nx' Wr.Ring.good hr2) hc2
  have H2 := Lib.hid (M2.wide.nn h2 C1.out.size)
  have C2 := Lib.hid (C1.out.next hc2)
  clear H1 C1 h2 hc2 back hr hr2
  go_wp2_with fail
  refine (of_1 v m r0 r1 ov w2 H2.out.blk).mono ?_
  rintro e w3 ⟨rfl, hc3⟩
  have H3 := Lib.hid (M2.wide.nn (M2.wide.nx M2.good H2.out hc3) C2.out.size)
  have C3 := Lib.hid (C2.out.trans hc3.of_no)
  clear H2 C2 hc3
  go_wp2_with fail
  obtain ⟨A, hr, -, back⟩ := H3.out.ring1
  refine (Wr.mean_w w3 A r1 k (v 4) t hr g0 hk t0 t1).mono ?_
  rintro e w4 ⟨b, rfl, hr2, hc4⟩
  obtain ⟨h4, hc4⟩ := back _ _ (Wr.Ring.wide.nx' Wr.Ring.good hr2) hc4
  have H4 := Lib.hid (M2.wide.nn h4 C3.out.size)
  have C4 := Lib.hid (C3.out.next hc4)
  clear H3 C3 h4 hc4 back hr hr2
  go_wp2_with fail
  go_ret2
  exact ⟨_, _, rfl, ⟨r0, r1, ov, H4.out⟩, C4.out⟩
set_option maxHeartbeats 1000000 in
theorem over_m (v : Nat → Int) (m k : Nat) (w : World) (S : Nat → Prop) (h : Met v m k w S) :
    Calls Tryz.prog 68 #[.pointer (some ⟨m, 0, none⟩)] w fun e w' => ∃ b : Bool, e = .returned (.bool b) ∧ Chg No w w' := by
  obtain ⟨r0, r1, ov, h⟩ := h
  have c := Blk.cell h.blk 22
  rw [mcv_22] at c
  have H := Lib.hid h
  clear h
  cases ov
  · go_enter Tryz.func68, Tryz.ntmps68
    go_wp2_with fail
    refine (of_0 v m r0 r1 false w H.out.blk).mono ?_
    rintro e w1 ⟨rfl, hc1⟩
    have H1 := Lib.hid (M2.good.kept H.out hc1)
    have C1 := Lib.hid hc1
    clear H hc1
    go_wp2_with fail
    obtain ⟨A, hr, -, -⟩ := H1.out.ring0
    refine (Wr.over_w w1 A r0 k (v 4) hr).mono ?_
    rintro e w2 ⟨b, rfl, rfl⟩
    cases b
    · go_wp2_with fail
      refine (of_1 v m r0 r1 false w1 H1.out.blk).mono ?_
      rintro e w3 ⟨rfl, hc3⟩
      have H3 := Lib.hid (M2.good.kept H1.out hc3)
      have C3 := Lib.hid (C1.out.trans hc3)
      clear H1 C1 hc3
      go_wp2_with fail
      obtain ⟨A, hr, -, -⟩ := H3.out.ring1
      refine (Wr.over_w w3 A r1 k (v 4) hr).mono ?_
      rintro e w4 ⟨b, rfl, rfl⟩
      go_wp2_with fail
      go_ret
      exact ⟨_, rfl, C3.out⟩
    · go_wp2_with fail
      go_ret
      exact ⟨_, rfl, C1.out⟩
  · go_enter Tryz.func68, Tryz.ntmps68
    go_wp2_with fail
    go_ret
    exact ⟨_, rfl, Chg.refl _ _⟩
end Go.Proofs.YtdgphoemjeakaaaGreatDoor.Wg
namespace Go.Proofs.YtdgphoemjeakaaaGreatDoor.Wd
open Go.RowKit Go.Shelf K
set_option maxRecDepth 100000
structure DelayV (w : World) (S : Nat → Prop) (p : Nat) (v : Value) (l : List Dl.Wish) (sp last : Int) : Prop where
  bd : ∀ k, S k → k < w.heap.size
  own : S p
  blk : Blk w p #[v, .int .i64 sp, .int .i64 last] 134
  row : Own w S 20 1 v l.length (l.map fun x => Value.iface 218 (Dl.wish x))
def Delay (w : World) (S : Nat → Prop) (p : Nat) (l : List Dl.Wish) (sp last : Int) : Prop := ∃ v, DelayV w S p v l sp last
section
variable {w w' : World} {S T : Nat → Prop} {p : Nat} {v : Value} {l : List Dl.Wish} {sp last : Int}
theorem DelayV.chg (h : DelayV w S p v l sp last) (c : Chg T w w') (hd : ∀ k, S k → T k → False) : DelayV w' S p v l sp last :=
  ⟨fun k hk => Nat.lt_of_lt_of_le (h.bd k hk) c.size, h.own, h.blk.chg c (hd p h.own), h.row.chg c hd⟩
theorem DelayV.kept (h : DelayV w S p v l sp last) (c : Chg No w w') : DelayV w' S p v l sp last := h.chg c fun _ _ h => h
theorem DelayV.mono (h : DelayV w S p v l sp last) (hs : ∀ k, k < w.heap.size → S k → T k) (hb : ∀ k, T k → k < w.heap.size) : DelayV w T p v l sp last :=
  ⟨hb, hs p h.blk.lt h.own, h.blk, h.row.mono hs⟩
theorem Delay.chg (h : Delay w S p l sp last) (c : Chg T w w') (hd : ∀ k, S k → T k → False) : Delay w' S p l sp last := by
  obtain ⟨v, h⟩ := h
  exact ⟨v, h.chg c hd⟩
theorem Delay.kept (h : Delay w S p l sp last) (c : Chg No w w') : Delay w' S p l sp last := h.chg c fun _ _ h => h
theorem Delay.mono (h : Delay w S p l sp last) (hs : ∀ k, k < w.heap.size → S k → T k) (hb : ∀ k, T k → k < w.heap.size) : Delay w T p l sp last := by
  obtain ⟨v, h⟩ := h
  exact ⟨v, h.mono hs hb⟩
theorem DelayV.setLast (h : DelayV w S p v l sp last) (t : Int) : DelayV (w.setCell ⟨p, 2, none⟩ (.int .i64 t)) S p v l sp t :=
  ⟨by simpa [World.setCell] using h.bd, h.own, h.blk.set 2 _, h.row.other h.blk (by decide) _⟩
theorem DelayV.filter (h : DelayV w S p v l sp last) {v' : Value} (q : Dl.Wish → Bool) (own : Own w' (Arr w S) 20 1 v' (G.kept q l).length ((G.kept q l).map fun x => Value.iface 218 (Dl.wish x))) (c : Chg (Arr w S) w w') : DelayV (w'.setCell ⟨p, 0, none⟩ v') S p v' (G.kept q l) sp last := by
  have hb := h.blk.chg c (h.blk.no_arr (by decide))
  exact ⟨fun k hk => by have := h.bd k hk; have := c.size; simp [World.setCell]; omega, h.own, hb.set 0 v', (own.mono fun _ _ h => h.1).other hb (by decide) v'⟩
theorem DelayV.push {w1 wX w2 : World} {v' : Value} {t n : Int} (h : DelayV w1 S p v l sp last) (hX : Chg No w1 wX) (own : Own w2 (K.nx (Arr w1 S) wX w2) 20 1 v' (l.length + 1) ((l.map fun x => Value.iface 218 (Dl.wish x)) ++ [.iface 218 (Dl.wish (t, n))])) (c : Chg (Arr w1 S) wX w2) :
    DelayV (w2.setCell ⟨p, 0, none⟩ v') (K.nx S w1 (w2.setCell ⟨p, 0, none⟩ v')) p v' (l ++ [(t, n)]) sp last := by
  have hb := (h.blk.kept hX).chg c (h.blk.no_arr (by decide))
  have hsz : (w2.setCell ⟨p, 0, none⟩ v').heap.size = w2.heap.size := by simp [World.setCell]
  have s1 := hX.size
  refine ⟨fun k hk => hk.2, ⟨.inl h.own, by rw [hsz]; exact hb.lt⟩, hb.set 0 v', ?_⟩
  rw [List.length_append, List.map_append]
  refine Own.other (own.mono fun k hk hS => ?_) hb (by decide) v'
  exact ⟨hS.1.imp (fun h => h.1) (by omega), by rw [hsz]; exact hS.2⟩
end
set_option maxHeartbeats 1000000 in
theorem new_any (sp : Int) (w : World) (s0 : 0 ≤ sp) (s1 : sp ≤ 600) : Calls Tryz.prog 41 #[.int .i64 sp] w fun e w' => e = .returned (.pointer (some ⟨w.heap.size, 0, none⟩)) ∧ w' = w.alloc (.cells #[.slice none 0 0, .int .i64 sp, .int .i64 0] 134) := by
  have k1 : decide (sp < 0) = false := decide_eq_false (by omega)
  have k2 : decide (600 < sp) = false := decide_eq_false (by omega)
  go_enter Tryz.func41, Tryz.ntmps41
  go_wp2
  go_ret
  exact ⟨rfl, rfl⟩
theorem new_rep (sp : Int) (w : World) : Delay (w.alloc (.cells #[.slice none 0 0, .int .i64 sp, .int .i64 0] 134)) (fun k => k = w.heap.size) w.heap.size [] sp 0 :=
  ⟨.slice none 0 0, fun k hk => by subst hk; simp, rfl, Blk.new _ _ _, Own.nil _ _ _ _⟩
set_option maxHeartbeats 1000000 in
theorem span_any (w : World) (S : Nat → Prop) (p : Nat) (l : List Dl.Wish) (sp last n : Int) (h : Delay w S p l sp last) (n0 : 0 ≤ n) (n1 : n ≤ 600) : Calls Tryz.prog 89 #[.pointer (some ⟨p, 0, none⟩), .int .i64 n] w fun e w' => ∃ c : Int, e = .returned (.int .i64 c) ∧ Delay w' S p l n last ∧ Chg S w w' := by
  obtain ⟨v, h⟩ := h
  have k1 : decide (n < 0) = false := decide_eq_false (by omega)
  have k2 : decide (600 < n) = false := decide_eq_false (by omega)
  have c1 : w.cell? ⟨p, 1, none⟩ = some (.int .i64 sp) := Blk.cell h.blk 1
  have f1 := Blk.free h.blk 1
  have HO := Lib.hid h.own
  have HD : Hid (DelayV (w.setCell ⟨p, 1, none⟩ (.int .i64 n)) S p v l n last) := ⟨by simpa [World.setCell] using h.bd, h.own, h.blk.set 1 _, h.row.other h.blk (by decide) _⟩
  clear h
  go_enter Tryz.func89, Tryz.ntmps89
  go_wp2
  go_ret
  first | exact ⟨_, rfl, ⟨_, HD.out⟩, (Chg.refl S w).set (a := ⟨p, 1, none⟩) (fun _ => HO.out) _⟩ | exact ⟨⟨_, rfl⟩, ⟨_, HD.out⟩, (Chg.refl S w).set (a := ⟨p, 1, none⟩) (fun _ => HO.out) _⟩
set_option maxHeartbeats 4000000 in
theorem put_any (w : World) (S : Nat → Prop) (p : Nat) (l : List Dl.Wish) (sp last t n : Int) (h : Delay w S p l sp last) (hn : l.length + 1 ≤ 1099511627776) (hat : ∀ x, x ∈ l → 0 ≤ x.1 ∧ x.1 ≤ 1099511627776) (l0 : 0 ≤ last) (t0 : last ≤ t) (t1 : t ≤ 1099511627776) (n0 : 0 ≤ n) (n1 : n ≤ 1000000) :
    Calls Tryz.prog 100 #[.pointer (some ⟨p, 0, none⟩), .int .i64 t, .int .i64 n] w fun e w' => e = .returned (.int .i64 0) ∧ Delay w' (K.nx S w w') p (G.kept (Dl.far t) l ++ [(t, n)]) sp t ∧ Chg S w w' := by
  obtain ⟨v, h⟩ := h
  have eg : ∀ args w, (callFunc 141 args).run Tryz.prog w = .ok (.enter 141 args) w := enters_of Tryz.func141 (by kernel_rfl) rfl
  obtain ⟨i0, hi, hz0, hz1, hz2⟩ := info_parts G.info20
  have k1 : decide (t < last) = false := decide_eq_false (by omega)
  have k2 : decide (1099511627776 < t) = false := decide_eq_false (by omega)
  have k3 : decide (n < 0) = false := decide_eq_false (by omega)
  have k4 : decide (1000000 < n) = false := decide_eq_false (by omega)
  have hB0 : Blk (w.alloc (.cells #[.int .i64 t] 2)) w.heap.size #[.int .i64 t] 2 := Blk.new w _ _
  have hR0 := h.kept ((Chg.refl No w).alloc (.cells #[.int .i64 t] 2))
  have HC0 : Hid (Chg S w (w.alloc (.cells #[.int .i64 t] 2))) := (Chg.refl S w).alloc _
  have hneA : w.heap.size ≠ p := by have := h.blk.lt; omega
  have HNS : Hid (¬ S w.heap.size) := fun hS => by have := h.bd _ hS; omega
  have HO := Lib.hid h.own
  have HAT := Lib.hid hat
  have HSW : Hid (w.heap.size < (w.alloc (.cells #[.int .i64 t] 2)).heap.size) := by show _ < _; simp
  obtain ⟨va0, cap0, hv0⟩ := h.row.sl
  subst hv0
  have c0 : (w.alloc (.cells #[.int .i64 t] 2)).cell? ⟨p, 0, none⟩ = some (.slice va0 l.length cap0) := Blk.cell hR0.blk 0
  have c2 : (w.alloc (.cells #[.int .i64 t] 2)).cell? ⟨p, 2, none⟩ = some (.int .i64 last) := Blk.cell hR0.blk 2
  have f2 := Blk.free hR0.blk 2
  have cA : (w.alloc (.cells #[.int .i64 t] 2)).cell? ⟨w.heap.size, 0, none⟩ = some (.int .i64 t) := Blk.cell hB0 0
  have HR0 := Lib.hid hR0
  have HB0 := Lib.hid hB0
  clear h hat hR0 hB0
  go_enter Tryz.func100, Tryz.ntmps100
  go_wp2_with fail
  generalize w.alloc (.cells #[.int .i64 t] 2) = wa at *
  generalize hBw : w.heap.size = B at *
  have HBw := Lib.hid hBw
  clear hBw
  go_wp2_with fail
  go_quiet (fail)
  go_wp2_with fail
  have hR1 := (HR0.out.kept ((Chg.refl No wa).drewN nq)).setLast t
  have hB1 : Blk ((wa.drewN nq).setCell ⟨p, 2, none⟩ (.int .i64 t)) B #[.int .i64 t] 2 := Blk.other (w := wa.drewN nq) HB0.out hneA _
  have HC1 := Lib.hid ((HC0.out.drewN nq).set (a := ⟨p, 2, none⟩) (fun _ => HO.out) (.int .i64 t))
  have HD := Lib.hid (G.delete_func 218 Dl.wish (Dl.far t) l 141 #[.pointer (some ⟨B, 0, none⟩)] eg _ (Arr ((wa.drewN nq).setCell ⟨p, 2, none⟩ (.int .i64 t)) S) _ hR1.row.arr (by omega) fun W' x hx hc => by
    have b2 := hB1.chg hc (hB1.no_arr (by decide))
    exact Dl.far_pred W' B x.1 x.2 t (Blk.cell b2 0) (HAT.out x hx).1 (HAT.out x hx).2 (by omega) t1 b2.lt)
  have HR1 := Lib.hid hR1
  have HB1 := Lib.hid hB1
  clear hR1 hB1
  refine HD.out.mono ?_
  rintro e w2 ⟨v2, rfl, ho, hc⟩
  have hKL : (G.kept (Dl.far t) l).length ≤ l.length := List.length_filter_le _ _
  have bp := HR1.out.blk.chg hc (HR1.out.blk.no_arr (by decide))
  have p0 : w2.cell? ⟨p, 0, none⟩ = some (.slice va0 l.length cap0) := Blk.cell bp 0
  have fp := Blk.free bp 0
  have HF := Lib.hid (HR1.out.filter (Dl.far t) ho hc)
  have HBF := Lib.hid ((HB1.out.chg hc (HB1.out.no_arr (by decide))).other hneA v2 (j := 0))
  have HCF := Lib.hid (((HC1.out.trans (hc.mono fun _ _ h => h.1))).set (a := ⟨p, 0, none⟩) (fun _ => HO.out) v2)
  obtain ⟨va2, cap2, hv2⟩ := ho.sl
  subst hv2
  have pp0 : (w2.setCell ⟨p, 0, none⟩ (.slice va2 (G.kept (Dl.far t) l).length cap2)).cell? ⟨p, 0, none⟩ = some (.slice va2 (G.kept (Dl.far t) l).length cap2) := Blk.cell HF.out.blk 0
  have ppf := Blk.free HF.out.blk 0
  have ppA : (w2.setCell ⟨p, 0, none⟩ (.slice va2 (G.kept (Dl.far t) l).length cap2)).cell? ⟨B, 0, none⟩ = some (.int .i64 t) := Blk.cell HBF.out 0
  clear c0 c2 f2 cA ho hc bp HD HR1 HB1 HC1 HR0 HB0 HC0
  go_wp2_with fail
  generalize hks : G.kept (Dl.far t) l = ks at *
  have HKS := Lib.hid hks
  clear hks
  generalize w2.setCell ⟨p, 0, none⟩ (.slice va2 ks.length cap2) = w3 at *
  have hpl : p < w3.heap.size := HF.out.blk.lt
  have hBl : B < w3.heap.size := HBF.out.lt
  have HA := Lib.hid HF.out.row.arr
  go_region_law (refine step_app rfl (.tmp 46) (.tmp 51) 58 rfl (Arr w3 S) 20 i0 .nilIface 1 16 Tryz.underlying58 hi hz0 hz1 hz2 rfl _ _ _ (by simp [Act.eval]) (HA.out.kept ((Chg.refl No w3).drew.alloc _)) ⟨w3.heap.size, 0, none⟩ 1 1 [.iface 218 (.agg #[.int .i64 t, .int .i64 n])] (by simp [Act.eval]) (by decide) rfl (built_at (by simp)) (by simp [Value.oneCell']) (by simp only [maxLen]; omega) (by omega) ?_; intro g5 o5 c5 w5 ho5 hc5; have hPU := HF.out.push (t := t) (n := n) (by first | exact ((Chg.refl No w3).alloc _).drew | exact ((Chg.refl No w3).drew).alloc _) ho5 hc5; have bp5 := (HF.out.blk.kept (by first | exact ((Chg.refl No w3).alloc _).drew | exact ((Chg.refl No w3).drew).alloc _)).chg hc5 (HF.out.blk.no_arr (by decide)); have p05 : w5.cell? ⟨p, 0, none⟩ = some (.slice va2 ks.length cap2) := Blk.cell bp5 0; have fp5 := Blk.free bp5 0; have HPU := Lib.hid hPU; have HC5 := Lib.hid hc5; clear ho5 hc5 bp5 hPU)
  all_goals
    go_wp2
    go_ret
    rw [HKS.out]
    refine ⟨rfl, ⟨_, HPU.out.mono (fun k _ hk => nx_no HCF.out.size hk) fun k hk => hk.2⟩, ?_⟩
    first
    | exact (((HCF.out.alloc _).drew).step HC5.out fun k _ h => h.1).set (a := ⟨p, 0, none⟩) (fun _ => HO.out) _
    | exact (((HCF.out.drew).alloc _).step HC5.out fun k _ h => h.1).set (a := ⟨p, 0, none⟩) (fun _ => HO.out) _
set_option maxHeartbeats 4000000 in
theorem most_any (w : World) (S : Nat → Prop) (p : Nat) (l : List Dl.Wish) (sp last t : Int) (h : Delay w S p l sp last) (hn : l.length ≤ 1099511627776) (hat : ∀ x, x ∈ l → (0 ≤ x.1 ∧ x.1 ≤ t) ∧ (0 ≤ x.2 ∧ x.2 ≤ 1000000)) (t0 : 0 ≤ t) (t1 : t ≤ 1099511627776) :
    Calls Tryz.prog 102 #[.pointer (some ⟨p, 0, none⟩), .int .i64 t] w fun e w' => ∃ m : Int, (0 ≤ m ∧ m ≤ 1000000) ∧ e = .returned (.int .i64 m) ∧ Chg No w w' := by
  obtain ⟨v, h⟩ := h
  have c0 : w.cell? ⟨p, 0, none⟩ = some v := Blk.cell h.blk 0
  obtain ⟨va, cap, hv⟩ := h.row.sl
  subst hv
  have H := Lib.hid h
  have HAT := Lib.hid hat
  clear h hat
  go_enter Tryz.func102, Tryz.ntmps102
  go_wp2_with fail
  go_loopw [5, 19] (fun s i wr => ∃ (k : Nat) (m : Int), (0 ≤ m ∧ m ≤ 1000000) ∧ k ≤ l.length ∧ i = .int .i64 k ∧ s = .int .i64 m ∧ Hid (Chg No w wr)) (fun _ i _ => l.length - (intOf i).toNat)
  case atStart => exact ⟨0, 0, by omega, Nat.zero_le _, rfl, rfl, Chg.refl _ _⟩
  case round =>
    obtain ⟨k, m, ⟨m0, m1⟩, hk, rfl, rfl, HC⟩ := hrel
    by_cases hlt : k < l.length
    · have HR := Lib.hid (H.out.kept HC.out)
      obtain ⟨g, o, rfl, hS, hg, hcap, hmax⟩ := HR.out.row.some_ (by omega)
      obtain ⟨⟨a, s⟩, hq⟩ : ∃ x, l[k]? = some x := ⟨l[k], List.getElem?_eq_getElem hlt⟩
      obtain ⟨⟨a0, a1⟩, s0, s1⟩ := HAT.out _ (List.mem_of_getElem? hq)
      have e0 : wr.cell? ⟨g, o + k, none⟩ = some (.iface 218 (.agg #[.int .i64 a, .int .i64 s])) := by
        rw [HR.out.row.cellAt k (by omega), List.getElem?_map, hq]
        rfl
      have p1 : wr.cell? ⟨p, 1, none⟩ = some (.int .i64 sp) := Blk.cell HR.out.blk 1
      have hpl := HR.out.blk.lt
      clear hq hS hmax
      by_cases hta : t ≤ a
      · have x1 : decide (t ≤ a) = true := decide_eq_true hta
        by_cases hms : m < s
        all_goals
          go_wp2
          go_quiet (fail)
          go_wp2
          go_roundw
          case rel => exact ⟨k + 1, _, by first | exact ⟨m0, m1⟩ | exact ⟨s0, s1⟩, by omega, by go_num, rfl, (HC.out.alloc _).drewN _⟩
          case measure => simp [intOf]; omega
      · have x1 : decide (t ≤ a) = false := decide_eq_false hta
        by_cases hsp : t - a < sp
        · have x2 : decide (t - a < sp) = true := decide_eq_true hsp
          by_cases hms : m < s
          all_goals
            go_wp2
            go_quiet (fail)
            go_wp2
            go_roundw
            case rel => exact ⟨k + 1, _, by first | exact ⟨m0, m1⟩ | exact ⟨s0, s1⟩, by omega, by go_num, rfl, (HC.out.alloc _).drewN _⟩
            case measure => simp [intOf]; omega
        · have x2 : decide (t - a < sp) = false := decide_eq_false hsp
          go_wp2
          go_quiet (fail)
          go_wp2
          go_roundw
          case rel => exact ⟨k + 1, _, ⟨m0, m1⟩, by omega, by go_num, rfl, (HC.out.alloc _).drewN _⟩
          case measure => simp [intOf]; omega
    · obtain rfl : k = l.length := by omega
      go_wp2
      go_ret
      exact ⟨_, ⟨m0, m1⟩, rfl, HC.out⟩
end Go.Proofs.YtdgphoemjeakaaaGreatDoor.Wd
namespace Go.Proofs.YtdgphoemjeakaaaGreatDoor.B
open Go.RowKit Go.Shelf K
set_option maxHeartbeats 1000000 in
theorem depth_any (w : World) (S : Nat → Prop) (p : Nat) (l : List (Int × Int)) (depth last n : Int) (h : Queue w S p l depth last) (n0 : 0 ≤ n) (n1 : n ≤ 200) : Calls Tryz.prog 58 #[.pointer (some ⟨p, 0, none⟩), .int .i64 n] w fun e w' => ∃ c : Int, e = .returned (.int .i64 c) ∧ Queue w' S p l n last ∧ Chg S w w' := by
  obtain ⟨v, h⟩ := h
  have k1 : decide (n < 0) = false := decide_eq_false (by omega)
  have k2 : decide (200 < n) = false := decide_eq_false (by omega)
  have c1 : w.cell? ⟨p, 1, none⟩ = some (.int .i64 depth) := Blk.cell h.blk 1
  have f1 := Blk.free h.blk 1
  have HO := Lib.hid h.own
  have HD : Hid (QueueV (w.setCell ⟨p, 1, none⟩ (.int .i64 n)) S p v l n last) := ⟨by simpa [World.setCell] using h.bd, h.own, h.blk.set 1 _, h.row.other h.blk (by decide) _⟩
  clear h
  go_enter Tryz.func58, Tryz.ntmps58
  go_wp2
  go_ret
  first | exact ⟨_, rfl, ⟨_, HD.out⟩, (Chg.refl S w).set (a := ⟨p, 1, none⟩) (fun _ => HO.out) _⟩ | exact ⟨⟨_, rfl⟩, ⟨_, HD.out⟩, (Chg.refl S w).set (a := ⟨p, 1, none⟩) (fun _ => HO.out) _⟩
end Go.Proofs.YtdgphoemjeakaaaGreatDoor.B
