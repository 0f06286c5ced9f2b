/- The whole service: Do. The whole service: New. The whole service: the settings that are given; to look at it. -/
import Derived.Test.YtdgphoemjeakaaaGreatDoorR30
import Derived.Test.YtdgphoemjeakaaaGreatDoorR24
import Derived.Test.YtdgphoemjeakaaaGreatDoorR25
import Derived.Deep.WholeRow
import Derived.Deep.MidRow
namespace Go.Proofs.YtdgphoemjeakaaaGreatDoor.Y
open Rg
open Go.RowKit K P U Mg Wk
set_option maxRecDepth 100000
theorem arrives_succ (li : Int) : ∀ (n : Nat) (s : V.Sys), V.arrives li (n + 1) s = V.arrive li (V.arrives li n s)
  | 0, _ => rfl
  | n + 1, s => by
    show V.arrives li (n + 1) (V.arrive li s) = _
    rw [arrives_succ li n]
    rfl
theorem ticks_succ (bu li rd : Int) : ∀ (n : Nat) (s : V.Sys), V.ticks bu li rd (n + 1) s = V.tick bu li rd (V.ticks bu li rd n s)
  | 0, _ => rfl
  | n + 1, s => by
    show V.ticks bu li rd (n + 1) (V.tick bu li rd s) = _
    rw [ticks_succ bu li rd n]
    rfl
def evt (k n : Int) (t : ByteArray) : Value := .agg #[.int .i64 k, .int .i64 n, .string t]
def Aft (a : At) (SS : Nat → Prop) (w0 : World) (s : V.Sys) (w : World) : Prop := ∃ rv tv tn, tn ≤ 1000 ∧ ∃ tx, St a SS w0 (sca a rv tv s) rv tv tn tx s w
section
variable {a : At} {SS : Nat → Prop} {w0 w w' : World} {s : V.Sys}
theorem Aft.no (h : Aft a SS w0 s w) (c : Chg No w w') : Aft a SS w0 s w' := by
  obtain ⟨rv, tv, tn, h1, tx, h2⟩ := h
  exact ⟨rv, tv, tn, h1, tx, h2.no c⟩
set_option maxHeartbeats 8000000 in
theorem do_bad (h : Aft a SS w0 s w) (k n : Int) (t : ByteArray) (h5 : k ≠ 5) (hm : E.may k n (!t.toList.isEmpty) = false) :
    Calls Tryz.prog 12 #[.pointer (some ⟨a.p, 0, none⟩), evt k n t] w fun e w' => e = .returned (.int .i64 1) ∧ Aft a SS w0 s w' := by
  have H := Lib.hid h
  clear h
  unfold evt
  go_enter Tryz.func12, Tryz.ntmps12
  go_wp2_with fail
  refine (E.may_any k n t _ h5).mono ?_
  rintro e w1 ⟨rfl, hc⟩
  have H1 := Lib.hid (H.out.no (((Chg.refl No w).alloc _).trans hc))
  rw [hm]
  clear hc H
  go_wp2
  go_ret
  exact ⟨rfl, H1.out⟩
set_option maxHeartbeats 8000000 in
theorem do_arrive (h : Aft a SS w0 s w) (inv : Inv a s) (n : Nat) (t : ByteArray) (hn : 1 ≤ n ∧ n ≤ 100) (ht : (!t.toList.isEmpty) = false) (n1 : s.now ≤ 1000000) (hr : s.rs.length + 100 ≤ 1000000) :
    Calls Tryz.prog 12 #[.pointer (some ⟨a.p, 0, none⟩), evt 2 n t] w fun e w' => e = .returned (.int .i64 0) ∧ ∃ s', Aft a SS w0 s' w' ∧ Inv a s' ∧ s'.now = s.now ∧ s'.rs.length = s.rs.length + n ∧ (a.E.ex → V.arrives 10 n s = s') := by
  have hm : E.may 2 n (!t.toList.isEmpty) = true := by
    rw [ht]
    have q1 : decide (1 ≤ (n : Int)) = true := decide_eq_true (by omega)
    have q2 : decide ((n : Int) ≤ 100) = true := decide_eq_true (by omega)
    simp [E.may, q1, q2]
  have H := Lib.hid h
  have HI := Lib.hid inv
  clear h inv
  unfold evt
  go_enter Tryz.func12, Tryz.ntmps12
  go_wp2_with fail
  refine (E.may_any 2 n t _ (by decide)).mono ?_
  rintro e w1 ⟨rfl, hc⟩
  have hB := (Blk.new w #[.int .i64 2, .int .i64 n, .string t] 32).kept hc
  have c0 : w1.cell? ⟨w.heap.size, 0, none⟩ = some (.int .i64 2) := hB.cell 0
  have c1 : w1.cell? ⟨w.heap.size, 1, none⟩ = some (.int .i64 n) := hB.cell 1
  have H1 := Lib.hid (H.out.no (((Chg.refl No w).alloc (.cells #[.int .i64 2, .int .i64 n, .string t] 32)).trans hc))
  rw [hm]
  clear hc H hB
  go_wp2_with fail
  go_loopw [18] (fun i wr => ∃ j : Nat, j ≤ n ∧ i = .int .i64 j ∧ Hid (∃ s', Aft a SS w0 s' wr ∧ Inv a s' ∧ s'.now = s.now ∧ s'.rs.length = s.rs.length + j ∧ (a.E.ex → V.arrives 10 j s = s'))) (fun i _ => n - (intOf i).toNat)
  case atStart => exact ⟨0, Nat.zero_le _, rfl, s, H1.out, HI.out, rfl, rfl, fun _ => rfl⟩
  case round =>
    obtain ⟨j, hj, rfl, HR⟩ := hrel
    by_cases hlt : j < n
    · obtain ⟨s', ⟨rv, tv, tn, htn, tx, hs⟩, hi', hjn, hjl, hx'⟩ := HR.out
      have HS := Lib.hid hs
      have HJ := Lib.hid hi'
      have HX := Lib.hid hx'
      clear hs HR hi' hx'
      go_wp2_with fail
      refine (arrive_any HS.out HJ.out (by omega) (by omega)).mono ?_
      rintro e w2 ⟨rfl, rv', s2, h2, h3, h4, h5, h6⟩
      have H2 : Hid (∃ s', Aft a SS w0 s' w2 ∧ Inv a s' ∧ s'.now = s.now ∧ s'.rs.length = s.rs.length + (j + 1) ∧ (a.E.ex → V.arrives 10 (j + 1) s = s')) :=
        ⟨s2, ⟨rv', tv, tn, htn, tx, h6⟩, h2, h3.trans hjn, by omega, fun hx => by rw [arrives_succ, HX.out hx, h5 hx]⟩
      clear h2 h3 h4 h5 h6
      go_wp2_with fail
      go_roundw
      case rel => exact ⟨j + 1, by omega, by go_num, H2.out⟩
      case measure => simp [intOf]; omega
    · obtain rfl : j = n := by omega
      go_wp2
      go_ret
      exact ⟨rfl, HR.out⟩
set_option maxHeartbeats 8000000 in
theorem do_finish (h : Aft a SS w0 s w) (inv : Inv a s) (n : Nat) (t : ByteArray) (hn : n ≤ 999) (ht : (!t.toList.isEmpty) = false) (n1 : s.now ≤ 1000000) (hr : s.rs.length ≤ 1000000) :
    Calls Tryz.prog 12 #[.pointer (some ⟨a.p, 0, none⟩), evt 3 n t] w fun e w' => ∃ (c : Int) (s' : V.Sys), e = .returned (.int .i64 c) ∧ Aft a SS w0 s' w' ∧ Inv a s' ∧ s'.now = s.now ∧ s'.rs.length = s.rs.length ∧ (a.E.ex → V.finish 10 n s = (c, s')) := by
  have hm : E.may 3 n (!t.toList.isEmpty) = true := by
    rw [ht]
    have q2 : decide ((n : Int) ≤ 999) = true := decide_eq_true (by omega)
    simp [E.may, q2]
  have H := Lib.hid h
  have HI := Lib.hid inv
  clear h inv
  unfold evt
  go_enter Tryz.func12, Tryz.ntmps12
  go_wp2_with fail
  refine (E.may_any 3 n t _ (by decide)).mono ?_
  rintro e w1 ⟨rfl, hc⟩
  have hB := (Blk.new w #[.int .i64 3, .int .i64 n, .string t] 32).kept hc
  have c0 : w1.cell? ⟨w.heap.size, 0, none⟩ = some (.int .i64 3) := hB.cell 0
  have c1 : w1.cell? ⟨w.heap.size, 1, none⟩ = some (.int .i64 n) := hB.cell 1
  obtain ⟨rv, tv, tn, htn, tx, hs⟩ := H.out.no (((Chg.refl No w).alloc (.cells #[.int .i64 3, .int .i64 n, .string t] 32)).trans hc)
  have HS := Lib.hid hs
  rw [hm]
  clear hc H hB hs
  go_wp2_with fail
  refine (finish_any HS.out HI.out n1 hr n).mono ?_
  rintro e w2 ⟨c, s', rfl, h2, h3, h4, h5, h6⟩
  have H2 : Hid (Aft a SS w0 s' w2 ∧ Inv a s' ∧ s'.now = s.now ∧ s'.rs.length = s.rs.length ∧ (a.E.ex → V.finish 10 n s = (c, s'))) := ⟨⟨rv, tv, tn, htn, tx, h6⟩, h2, h3, h4, h5⟩
  clear h2 h3 h4 h5 h6
  go_wp2
  go_ret
  exact ⟨_, s', rfl, H2.out⟩
def lose (n : Int) (s : V.Sys) : V.Sys := { s with lost := min (s.lost + n) 1000 }
set_option maxHeartbeats 8000000 in
theorem do_lose (h : Aft a SS w0 s w) (inv : Inv a s) (n : Int) (t : ByteArray) (hn : 1 ≤ n ∧ n ≤ 50) (ht : (!t.toList.isEmpty) = false) :
    Calls Tryz.prog 12 #[.pointer (some ⟨a.p, 0, none⟩), evt 6 n t] w fun e w' => e = .returned (.int .i64 0) ∧ Aft a SS w0 (lose n s) w' ∧ Inv a (lose n s) := by
  have hm : E.may 6 n (!t.toList.isEmpty) = true := by
    rw [ht]
    have q1 : decide (1 ≤ n) = true := decide_eq_true (by omega)
    have q2 : decide (n ≤ 50) = true := decide_eq_true (by omega)
    simp [E.may, q1, q2]
  have hlo := inv.lost
  have HI : Hid (Inv a (lose n s)) := ⟨inv.may, inv.exv, inv.dv, inv.dp, inv.pl, inv.ql, inv.dec, ⟨by show 0 ≤ min (s.lost + n) 1000; omega, by show min (s.lost + n) 1000 ≤ 1000; omega⟩, inv.zs⟩
  have H := Lib.hid h
  clear h inv
  unfold evt
  go_enter Tryz.func12, Tryz.ntmps12
  go_wp2_with fail
  refine (E.may_any 6 n t _ (by decide)).mono ?_
  rintro e w1 ⟨rfl, hc⟩
  have hB := (Blk.new w #[.int .i64 6, .int .i64 n, .string t] 32).kept hc
  have c0 : w1.cell? ⟨w.heap.size, 0, none⟩ = some (.int .i64 6) := hB.cell 0
  obtain ⟨rv, tv, tn, htn, tx, hs⟩ := H.out.no (((Chg.refl No w).alloc (.cells #[.int .i64 6, .int .i64 n, .string t] 32)).trans hc)
  have HS := Lib.hid hs
  have HB := Lib.hid hB
  rw [hm]
  clear hc H hB hs
  go_wp2_with fail
  refine do18_at (by kernel_rfl) a.p w.heap.size s.lost n (fun _ b w' => cond b (Aft a SS w0 (lose n s) w') (St a SS w0 (sca a rv tv s) rv tv tn tx s w' ∧ Chg No w1 w')) hlo.1 hlo.2 (by omega) (by omega) (fun _ _ y => by rw [y.1.blk.cell, sc32]) (fun _ _ y => by rw [(HB.out.kept y.2).cell]; rfl) (fun _ w' y => ?_) _ rfl rfl rfl () ⟨HS.out.no (Chg.refl No _).drew, (Chg.refl No _).drew⟩ fun _ w2 h2 => ?_
  · have y1 : St a SS w0 (sca a rv tv s) rv tv tn tx s w' := y.1
    refine ⟨_, by rw [y1.blk.cell]; exact sc32 _ _ _ _, y1.blk.free 32, rv, tv, tn, htn, tx, ?_⟩
    have h3 := y1.cell 32 (.int .i64 (min (s.lost + n) 1000))
    rw [sc_set32] at h3
    exact h3
  · have H2 : Hid (Aft a SS w0 (lose n s) w2) := h2
    clear h2
    simp only [lay_do18, puts, List.setIfInBounds_toArray, List.set_cons_succ, List.set_cons_zero]
    go_wp2
    go_ret
    exact ⟨rfl, H2.out, HI.out⟩
set_option maxHeartbeats 8000000 in
theorem do_tick (h : Aft a SS w0 s w) (inv : Inv a s) (n : Nat) (t : ByteArray) (hn : 1 ≤ n ∧ n ≤ 200) (ht : (!t.toList.isEmpty) = false) (n1 : s.now + 200 ≤ 1000000) (hr : s.rs.length ≤ 1000000) :
    Calls Tryz.prog 12 #[.pointer (some ⟨a.p, 0, none⟩), evt 1 n t] w fun e w' => e = .returned (.int .i64 0) ∧ ∃ s', Aft a SS w0 s' w' ∧ Inv a s' ∧ s'.now = s.now + n ∧ s'.rs.length = s.rs.length ∧ (a.E.ex → V.ticks 20000 10 3 n s = s') := by
  have hm : E.may 1 n (!t.toList.isEmpty) = true := by
    rw [ht]
    have q1 : decide (1 ≤ (n : Int)) = true := decide_eq_true (by omega)
    have q2 : decide ((n : Int) ≤ 200) = true := decide_eq_true (by omega)
    simp [E.may, q1, q2]
  have hz := inv.pl.now0
  have H := Lib.hid h
  have HI := Lib.hid inv
  clear h inv
  unfold evt
  go_enter Tryz.func12, Tryz.ntmps12
  go_wp2_with fail
  refine (E.may_any 1 n t _ (by decide)).mono ?_
  rintro e w1 ⟨rfl, hc⟩
  have hB := (Blk.new w #[.int .i64 1, .int .i64 n, .string t] 32).kept hc
  have c0 : w1.cell? ⟨w.heap.size, 0, none⟩ = some (.int .i64 1) := hB.cell 0
  have c1 : w1.cell? ⟨w.heap.size, 1, none⟩ = some (.int .i64 n) := hB.cell 1
  have H1 := Lib.hid (H.out.no (((Chg.refl No w).alloc (.cells #[.int .i64 1, .int .i64 n, .string t] 32)).trans hc))
  obtain ⟨rv, tv, tn, htn, tx, hs⟩ := H1.out
  have c20 : w1.cell? ⟨a.p, 20, none⟩ = some (.int .i64 s.now) := by rw [hs.blk.cell, sc20]
  rw [hm]
  clear hc H hB hs
  have k20 : decide (1099511627776 < s.now + (n : Int)) = false := decide_eq_false (by omega)
  go_wp2_with fail
  go_quiet (fail)
  go_wp2_with fail
  go_loopw [66] (fun i wr => ∃ j : Nat, j ≤ n ∧ i = .int .i64 j ∧ Hid (∃ s', Aft a SS w0 s' wr ∧ Inv a s' ∧ s'.now = s.now + j ∧ s'.rs.length = s.rs.length ∧ (a.E.ex → V.ticks 20000 10 3 j s = s'))) (fun i _ => n - (intOf i).toNat)
  case atStart => exact ⟨0, Nat.zero_le _, rfl, s, H1.out.no ((Chg.refl No w1).drewN _), HI.out, by simp, rfl, fun _ => rfl⟩
  case round =>
    obtain ⟨j, hj, rfl, HR⟩ := hrel
    by_cases hlt : j < n
    · obtain ⟨s', ⟨rv, tv, tn, htn, tx, hs⟩, hi', hjn, hjl, hx'⟩ := HR.out
      have HS := Lib.hid hs
      have HJ := Lib.hid hi'
      have HX := Lib.hid hx'
      clear hs HR hi' hx'
      go_wp2_with fail
      refine (tick_any HS.out htn HJ.out (by omega) (by omega)).mono ?_
      rintro e w2 ⟨rfl, tv', tn', htn', tx', s2, h2, h3, h4, h5, h6⟩
      have H2 : Hid (∃ s', Aft a SS w0 s' w2 ∧ Inv a s' ∧ s'.now = s.now + ((j + 1 : Nat) : Int) ∧ s'.rs.length = s.rs.length ∧ (a.E.ex → V.ticks 20000 10 3 (j + 1) s = s')) :=
        ⟨s2, ⟨rv, tv', tn', htn', tx', h6⟩, h2, by omega, by omega, fun hx => by rw [ticks_succ, HX.out hx, h5 hx]⟩
      clear h2 h3 h4 h5 h6
      go_wp2_with fail
      go_roundw
      case rel => exact ⟨j + 1, by omega, by go_num, H2.out⟩
      case measure => simp [intOf]; omega
    · obtain rfl : j = n := by omega
      go_wp2
      go_ret
      exact ⟨rfl, HR.out⟩
end
end Go.Proofs.YtdgphoemjeakaaaGreatDoor.Y
namespace Go.Proofs.YtdgphoemjeakaaaGreatDoor.Y
open Rg
open Me (mw bld)
open Go.RowKit K P U Mg Wk
set_option maxRecDepth 100000
theorem may_said : P.Said.may := by
  intro bu ini li rd ok w
  have h : mayB (fun k => [10000, 700, 60, 6, 1, 2000, 10000, 2000, 0, 0, ini, 30, 0, bu, li, 100, 60, rd, 0, 0].getD k 0) = true := by
    obtain ⟨h1, h2, h3, h4⟩ := ok
    have h5 : (bu == -1000 || (decide (0 ≤ bu) && decide (bu ≤ 100000000))) = true := by
      rcases h1 with h1 | h1 <;> simp [h1]
    simp [mayB, pbs, wi, topI, h1, h2, h3, h4]
  exact may_t _ h w
theorem exc_c (E : Env) (v : Nat → Int) (hv : mayB v = true) (exv : E.ex → v = vdef) (w : World) : Calls Tryz.prog 25 #[.agg (cf v), .int .i64 (v 10), .int .i64 0] w fun e w' => ∃ x : Int, e = .returned (.int .i64 x) ∧ (E.ex → x = P.excess 20000 10 1 0) ∧ Chg No w w' := by
  by_cases hx : E.ex
  · rw [exv hx]
    exact (P.excess_any may_said 20000 1 10 3 ⟨.inr (by decide), by decide, by decide, by decide⟩ 1 0 w (by decide) (by decide) (by decide) (by decide)).mono fun e w' ⟨h1, h2⟩ => ⟨_, h1, (fun _ => rfl), h2⟩
  · obtain ⟨-, -, -, -, -, -, -, -, ⟨i0, i1⟩, -⟩ := may_bd hv
    exact (excess_w v hv (v 10) 0 w (by omega) (by omega)).mono fun e w' ⟨x, h1, h2⟩ => ⟨x, h1, (fun h => absurd h hx), h2⟩
def raw (ini : Int) (y : Dd) : V.Sys := { pods := [], made := 0, q := [], ql := -9223372036854775808, b0 := y.b0, b1 := y.b1, nw := y.nw, wl := y.wl, hl := y.hl, si := y.si, mo := y.mo, dl := y.dl, rs := [], ld := ⟨0, 0, 0, 0, false, 0⟩, now := 0, want := ini, proxy := false, zs := -1, lost := 0 }
def rawc (v : Nat → Int) (g : Nat) : Array Value := mw (cf v) [.int .i64 0, .slice (some ⟨g, 0, none⟩) 3 3, .slice none 0 0, .int .i64 0, .int .i64 0, .int .i64 0, .int .i64 0, .bool false, .int .i64 0, .int .i64 (v 10), .bool false, .int .i64 (-1), .int .i64 0, .slice none 0 0]
@[go_sem] theorem bld66 (v : Nat → Int) (g : Nat) (w : World) : bld 66 #[(0, .agg (cf v)), (2, .slice (some ⟨g, 0, none⟩) 3 3), (5, .int .i64 (v 10)), (7, .agg #[.int .i64 (-1)])] w = .ok (.value (.agg (rawc v g))) w := by
  kernel_rfl
theorem raw_rep {E : Env} {v : Nat → Int} {yy : Dd} {w1 w : World} {l q d g p x y : Nat} (hl : A.Life w (fun k => k = l) l [] 0) (hq : B.Queue w (fun k => k = q) q [] (v 15) (-9223372036854775808)) (hd : E.rep v d yy w (fun k => x ≤ k ∧ k < y)) (hg : Blk w g (pc l q d) 20) (hp : Blk w p (rawc v g) 66) (c : Chg No w1 w)
    (h1 : w1.heap.size ≤ l) (h2 : l < q) (h3 : q < x) (h4 : x ≤ y) (h5 : y ≤ g) (h6 : g < p) :
    St ⟨E, v, v, v 15, p, g, l, q, d⟩ No w1 (sca ⟨E, v, v, v 15, p, g, l, q, d⟩ (.slice none 0 0) (.slice none 0 0) (raw (v 10) yy)) (.slice none 0 0) (.slice none 0 0) 0 [] (raw (v 10) yy) w := by
  have h7 := hp.lt
  have hd' := (E.good v d yy).bd hd
  refine ⟨Y2.wide.mono (S := fun k => w1.heap.size ≤ k ∧ k < w.heap.size) ?_ (fun k hk => ⟨.inr hk.1, hk.2⟩) fun _ hk => hk.2, c⟩
  refine ⟨fun k hk => hk.2, fun k => k = p, fun k => w1.heap.size ≤ k ∧ k < p, fun k hk => by omega, fun k hk => by omega, fun k h h' => by omega, ⟨fun k hk => by omega, rfl, hp⟩, fun k hk => by omega, fun k => k = g, fun k => w1.heap.size ≤ k ∧ k < g, fun k hk => by omega, fun k hk => by omega, fun k h h' => by omega, ⟨fun k hk => by omega, rfl, hg⟩, fun k hk => by omega,
    fun k => k = l, fun k => l < k ∧ k < g, fun k hk => by omega, fun k hk => by omega, fun k h h' => by omega, hl, fun k hk => by omega, fun k => k = q, fun k => q < k ∧ k < g, fun k hk => by omega, fun k hk => by omega, fun k h h' => by omega, hq, fun k hk => by omega, fun k => x ≤ k ∧ k < y, fun _ => False, fun k hk => by omega, fun k hk => hk.elim, fun k _ h' => h', hd, fun k hk => hk.elim, fun _ => False, fun _ => False, fun k hk => hk, fun k hk => hk, fun k h _ => h, ⟨fun k hk => hk.elim, Own.nil _ _ _ _⟩, ⟨fun k hk => hk.elim, Own.nil _ _ _ _⟩⟩
theorem keepB {v : Nat → Int} {w w' : World} {B : Nat} (h : Hid (Blk w B (cf v) 24) ∧ rowOf w B 0 20 = some (.agg (cf v)) ∧ w.cell? ⟨B, 15, none⟩ = some (.int .i64 (v 15)) ∧ w.cell? ⟨B, 10, none⟩ = some (.int .i64 (v 10))) (c : Chg No w w') :
    Hid (Blk w' B (cf v) 24) ∧ rowOf w' B 0 20 = some (.agg (cf v)) ∧ w'.cell? ⟨B, 15, none⟩ = some (.int .i64 (v 15)) ∧ w'.cell? ⟨B, 10, none⟩ = some (.int .i64 (v 10)) := by
  have hb : Blk w' B (cf v) 24 := h.1.out.kept c
  have hr := rowOf_blk hb
  rw [cf_size] at hr
  exact ⟨hb, hr, cell_cf hb 15, cell_cf hb 10⟩
def Raw (E : Env) (v : Nat → Int) (w2 : World) (s4 : Value) (wx : World) : Prop := ∃ (a : At) (y : Dd), s4 = .pointer (some ⟨a.p, 0, none⟩) ∧ (a.E = E ∧ a.v = v ∧ a.dv = v ∧ a.dp = v 15) ∧ E.ok 0 y ∧ (E.ex → y = ⟨[], [], -1, [], 0, -1, 0, 0⟩) ∧ St a No w2 (sca a (.slice none 0 0) (.slice none 0 0) (raw (v 10) y)) (.slice none 0 0) (.slice none 0 0) 0 [] (raw (v 10) y) wx
set_option maxHeartbeats 8000000 in
theorem new_any (E : Env) (v : Nat → Int) (may : mayB v = true) (exv : E.ex → v = vdef) (w : World) : Calls Tryz.prog 8 #[.agg (cf v)] w fun e w' => ∃ (a : At) (s : V.Sys), e = .returned (.tuple #[.pointer (some ⟨a.p, 0, none⟩), .int .i64 0]) ∧ a.E = E ∧ Aft a No w s w' ∧ Inv a s ∧ s.now = 0 ∧ s.rs.length = 0 ∧ (E.ex → V.new 20000 1 10 = s) := by
  have HM := Lib.hid (may_t v may)
  have HMM := Lib.hid may
  have HX0 := Lib.hid exv
  have HD := Lib.hid (fun w => E.new v w may exv)
  obtain ⟨-, -, -, -, -, -, -, -, ⟨i0, i1⟩, -, -, ⟨q0, q1⟩, -⟩ := may_bd may
  clear may exv
  go_enter Tryz.func8, Tryz.ntmps8
  go_wp2_with fail
  have hB : Blk (w.alloc (.cells (cf v) 24)) w.heap.size (cf v) 24 := Blk.new _ _ _
  have HC : Hid (Chg No w (w.alloc (.cells (cf v) 24))) := (Chg.refl No w).alloc _
  have hsz : w.heap.size < (w.alloc (.cells (cf v) 24)).heap.size := by simp
  generalize w.alloc (.cells (cf v) 24) = w1 at *
  generalize w.heap.size = X0 at *
  have hr := rowOf_blk hB
  rw [cf_size] at hr
  go_upto_region 3 with (first | (go_at_call 16; refine (HM.out _).mono ?_; rintro e w2 ⟨rfl, hc⟩))
  have hS : Hid (Blk w2.drew X0 (cf v) 24) ∧ rowOf w2.drew X0 0 20 = some (.agg (cf v)) ∧ w2.drew.cell? ⟨X0, 15, none⟩ = some (.int .i64 (v 15)) ∧ w2.drew.cell? ⟨X0, 10, none⟩ = some (.int .i64 (v 10)) := by
    have hb : Blk w2.drew X0 (cf v) 24 := hB.kept hc.drew
    have hr := rowOf_blk hb
    rw [cf_size] at hr
    exact ⟨hb, hr, cell_cf hb 15, cell_cf hb 10⟩
  have HC2 := Lib.hid hc
  have HCC := Lib.hid (HC.out.trans HC2.out)
  have HX2 : Hid (Blk w2 X0 (cf v) 24) := hB.kept HC2.out
  clear hr HM hc hB hsz HC
  go_cut [4] from 5 (fun s4 wx => Hid (Raw E v w2 s4 wx))
  case first =>
    go_wp2_with fail
    go_region_held3 (fun w' => Hid (Blk w' X0 (cf v) 24) ∧ rowOf w' X0 0 20 = some (.agg (cf v)) ∧ w'.cell? ⟨X0, 15, none⟩ = some (.int .i64 (v 15)) ∧ w'.cell? ⟨X0, 10, none⟩ = some (.int .i64 (v 10))) (first | exact hS | assumption | exact keepB (by assumption) hc3 | exact keepB (by assumption) hc5 | exact keepB (by assumption) ((Chg.refl No _).alloc _)) (first | (go_at_call 17; refine (B.life_new _).mono ?_; rintro e w3 ⟨rfl, rfl⟩) | (go_at_call 18; refine (B.queue_new _ _ (by omega) (by omega)).mono ?_; rintro e w4 ⟨rfl, rfl⟩) | (go_at_call 19; refine (HD.out _).mono ?_; rintro e w5 ⟨d, yd, rfl, hdec, hc3, hok, hex⟩) | (go_at_call 20; refine (state_new _).mono ?_; rintro e w6 ⟨rfl, hc5⟩))
    all_goals have HOK := Lib.hid (And.intro hok hex)
    all_goals clear hS hok hex
    · rename_i hHeld
      clear hHeld
      have s3 : (w2.alloc (.cells #[.slice none 0 0, .int .i64 0] 83)).heap.size = w2.heap.size + 1 := by simp
      have s4 : ((w2.alloc (.cells #[.slice none 0 0, .int .i64 0] 83)).alloc (.cells #[.slice none 0 0, .int .i64 (v 15), .int .i64 (-9223372036854775808)] 85)).heap.size = w2.heap.size + 2 := by simp
      have d3 := B.life_new_rep w2
      have d4 := B.queue_new_rep (w2.alloc (.cells #[.slice none 0 0, .int .i64 0] 83)) (v 15) (-9223372036854775808)
      rw [s3] at d4
      have g4 := Blk.new w5 (pc w2.heap.size (w2.heap.size + 1) d) 20
      have z3 : w2.heap.size + 2 ≤ w5.heap.size := by have := hc3.size; simp at this; omega
      have z5 : w5.heap.size + 1 ≤ w6.heap.size := by have := hc5.size; simp at this; omega
      have HR0 := Lib.hid (raw_rep (E := E) (v := v) (yy := yd) (w1 := w2) (w := w6.alloc (.cells (rawc v w5.heap.size) 66)) (p := w6.heap.size) (x := w2.heap.size + 2) (y := w5.heap.size) (d3.kept ((((Chg.refl No _).alloc _).drew.trans hc3).trans (((Chg.refl No _).alloc _).trans (hc5.alloc _)))) (d4.kept (((Chg.refl No _).drew.trans hc3).trans (((Chg.refl No _).alloc _).trans (hc5.alloc _)))) ((E.good v d yd).kept (by simpa [s4] using hdec) (((Chg.refl No _).alloc _).trans (hc5.alloc _))) (g4.kept (hc5.alloc _)) (Blk.new _ _ _) ((((Chg.refl No w2).alloc _).alloc _).drew.trans (hc3.trans (((Chg.refl No _).alloc _).trans (hc5.alloc _)))) (by omega) (by omega) (by omega) (by omega) (by omega) (by omega))
      clear hdec hc3 hc5 d3 d4 g4 z3 z5 s3 s4
      simp only [Exit.then]
      go_wp2_with fail
      go_meet
      exact ⟨⟨E, v, v, v 15, w6.heap.size, w5.heap.size, w2.heap.size, w2.heap.size + 1, d⟩, yd, rfl, ⟨rfl, rfl, rfl, rfl⟩, HOK.out.1, HOK.out.2, HR0.out⟩
    · rename_i hHeld
      clear hHeld
      have s3 : (w2.alloc (.cells #[.slice none 0 0, .int .i64 0] 83)).heap.size = w2.heap.size + 1 := by simp
      have s4 : ((w2.alloc (.cells #[.slice none 0 0, .int .i64 0] 83)).alloc (.cells #[.slice none 0 0, .int .i64 (v 15), .int .i64 (-9223372036854775808)] 85)).heap.size = w2.heap.size + 2 := by simp
      have d3 := B.life_new_rep w2
      have d4 := B.queue_new_rep (w2.alloc (.cells #[.slice none 0 0, .int .i64 0] 83)) (v 15) (-9223372036854775808)
      rw [s3] at d4
      have z3 : w2.heap.size + 2 ≤ w5.heap.size := by have := hc3.size; simp at this; omega
      have z5 : w5.heap.size ≤ w6.heap.size := hc5.size
      have z6 : (w6.alloc (.cells (pc w2.heap.size (w2.heap.size + 1) d) 20)).heap.size = w6.heap.size + 1 := by simp
      have g4 := Blk.new w6 (pc w2.heap.size (w2.heap.size + 1) d) 20
      have b4 := Blk.new (w6.alloc (.cells (pc w2.heap.size (w2.heap.size + 1) d) 20)) (rawc v w6.heap.size) 66
      rw [z6] at b4
      have HR0 := Lib.hid (raw_rep (E := E) (v := v) (yy := yd) (w1 := w2) (w := (w6.alloc (.cells (pc w2.heap.size (w2.heap.size + 1) d) 20)).alloc (.cells (rawc v w6.heap.size) 66)) (p := w6.heap.size + 1) (x := w2.heap.size + 2) (y := w5.heap.size) (d3.kept ((((Chg.refl No _).alloc _).drew.trans hc3).trans ((hc5.alloc _).alloc _))) (d4.kept (((Chg.refl No _).drew.trans hc3).trans ((hc5.alloc _).alloc _))) ((E.good v d yd).kept (by simpa [s4] using hdec) ((hc5.alloc _).alloc _)) (g4.kept ((Chg.refl No _).alloc _)) b4 ((((Chg.refl No w2).alloc _).alloc _).drew.trans (hc3.trans ((hc5.alloc _).alloc _))) (by omega) (by omega) (by omega) (by omega) (by omega) (by omega))
      clear hdec hc3 hc5 d3 d4 g4 b4 z3 z5 s3 s4
      simp only [Exit.then]
      try rw [z6]
      go_wp2_with fail
      go_meet
      exact ⟨⟨E, v, v, v 15, w6.heap.size + 1, w6.heap.size, w2.heap.size, w2.heap.size + 1, d⟩, yd, by first | rfl | rw [z6], ⟨rfl, rfl, rfl, rfl⟩, HOK.out.1, HOK.out.2, HR0.out⟩
  case rest =>
    obtain ⟨a, y, rfl, ha, hok, hex, hst⟩ := hcut.out
    have HR0 := Lib.hid hst
    have HOK := Lib.hid (And.intro hok hex)
    have HA := Lib.hid ha
    clear hcut hst hok hex ha hS
    go_wp2_with fail
    obtain ⟨x, hx⟩ : ∃ x, M.scale (v 10).toNat 0 [] 0 = x := ⟨_, rfl⟩
    have HX := Lib.hid hx
    have HPL : Hid (V.Pl 0 x.2 [] (x.1.map (M.ripe 0 0)) []) := by rw [← hx]; exact V.Pl.new _ (by omega)
    have p0 : V.PodsOk 1000 0 0 [] := ⟨by decide, List.nodup_nil, (fun p hp => by simp at hp), by decide, by decide⟩
    have hpo := p0.scale (by decide) (by decide) (v 10).toNat (by omega) (by decide)
    rw [hx] at hpo
    obtain ⟨hok, _, _⟩ := pods_small (n := 0) hpo.1 hpo.2 (by omega) (by decide) (by omega)
    have HOK2 := Lib.hid hok
    clear hx hpo hok p0
    refine new4_at (by kernel_rfl) X0 a.p a.l (v 10) (fun _ b w' => St a No w2 (sca a (.slice none 0 0) (.slice none 0 0) (raw (v 10) y)) (.slice none 0 0) (.slice none 0 0) 0 [] (cond b { raw (v 10) y with pods := x.1, made := x.2 } (raw (v 10) y)) w') (fun _ _ y => cell_cf (HX2.out.kept y.2) 10) (fun _ w' y => (pods_any y (sc21 a _ _ _)).mono fun e w'' ⟨h1, h2⟩ => ⟨h1, y.no h2⟩) (fun _ w' z => ?_) _ rfl rfl rfl () (HR0.out.no (Chg.refl No _).drew) fun _ w7 h7 => ?_
    · have y' : St a No w2 (sca a (.slice none 0 0) (.slice none 0 0) (raw (v 10) y)) (.slice none 0 0) (.slice none 0 0) 0 [] (raw (v 10) y) w' := z
      obtain ⟨C, hl, back⟩ := y'.life
      have hsc := A.scale_any w' C a.l [] 0 hl ⟨by simp, fun q hq => by simp at hq⟩ (v 10).toNat 0 (by omega) (by omega) (by omega) (by simp) (by omega) (by omega)
      rw [Int.toNat_of_nonneg i0, HX.out] at hsc
      exact hsc.mono fun e w'' ⟨h1, h2, h3⟩ => ⟨h1, back _ _ w'' h2 h3⟩
    have H7 : Hid (St a No w2 (sca a (.slice none 0 0) (.slice none 0 0) { raw (v 10) y with pods := x.1, made := x.2 }) (.slice none 0 0) (.slice none 0 0) 0 [] { raw (v 10) y with pods := x.1, made := x.2 } w7) := h7
    clear h7 HR0
    simp only [lay_new4, puts, List.setIfInBounds_toArray, List.set_cons_succ, List.set_cons_zero]
    go_wp2_with fail
    refine (pods_any H7.out (sc21 a _ _ _)).mono ?_
    rintro e w8 ⟨rfl, hc8⟩
    have H8 := Lib.hid (H7.out.no hc8)
    clear H7 hc8
    go_wp2_with fail
    obtain ⟨C, hl, back⟩ := H8.out.life
    refine (A.ripe_any w8 C a.l x.1 x.2 hl HOK2.out 0 0 (by omega) (by omega)).mono ?_
    rintro e w9 ⟨rfl, h9, hc9⟩
    obtain ⟨sN, hsN⟩ : ∃ sN : V.Sys, sN = { raw (v 10) y with pods := x.1.map (M.ripe 0 0), made := x.2 } := ⟨_, rfl⟩
    have H9 : Hid (St a No w2 (sca a (.slice none 0 0) (.slice none 0 0) sN) (.slice none 0 0) (.slice none 0 0) 0 [] sN w9) := by
      rw [hsN]
      exact back _ x.2 w9 (LifeR.wide.nx' LifeR.good h9) hc9
    have HSN := Lib.hid hsN
    clear H8 hl back h9 hc9 hsN
    go_wp2_with fail
    refine new6_at (by kernel_rfl) (cf v) X0 a.p (v 10) (fun z => P.proxy (v 13) (v 10) z) (fun z b w' => (E.ex → z = P.excess 20000 10 1 0) ∧ St a No w2 (cond b (sca a (.slice none 0 0) (.slice none 0 0) { sN with proxy := P.proxy (v 13) (v 10) z }) (sca a (.slice none 0 0) (.slice none 0 0) sN)) (.slice none 0 0) (.slice none 0 0) 0 [] sN w') (fun _ w' y => by
      have hr := rowOf_blk (HX2.out.kept y.2.2)
      rw [cf_size] at hr
      exact hr) (fun _ _ y => cell_cf (HX2.out.kept y.2.2) 10) (fun _ w' y => ?_) (fun _ w' y => (proxy_w v HMM.out (v 10) _ w').mono fun e w'' ⟨h1, h2⟩ => ⟨h1, y.1, y.2.no h2⟩) (fun z w' y => ?_) _ rfl rfl rfl (P.excess 20000 10 1 0) ⟨(fun _ => rfl), H9.out.no (Chg.refl No _).drew⟩ fun z w10 h10 => ?_
    · have y' : St a No w2 (sca a (.slice none 0 0) (.slice none 0 0) sN) (.slice none 0 0) (.slice none 0 0) 0 [] sN w' := y.2
      exact (exc_c E v HMM.out HX0.out w').mono fun e w'' ⟨z, h1, h2, h3⟩ => ⟨z, h1, h2, y'.no h3⟩
    · have y' : St a No w2 (sca a (.slice none 0 0) (.slice none 0 0) sN) (.slice none 0 0) (.slice none 0 0) 0 [] sN w' := y.2
      refine ⟨_, by rw [y'.blk.cell]; exact sc30 _ _ _ _, y'.blk.free 30, y.1, ?_⟩
      have h6 := y'.cell 30 (.bool (P.proxy (v 13) (v 10) z))
      rw [sc_set30] at h6
      exact h6
    obtain ⟨hz, h11⟩ := h10
    obtain ⟨sF, hsF⟩ : ∃ sF : V.Sys, sF = { sN with proxy := P.proxy (v 13) (v 10) z } := ⟨_, rfl⟩
    have HF : Hid (a.E = E ∧ Aft a No w sF w10 ∧ Inv a sF ∧ sF.now = 0 ∧ sF.rs.length = 0 ∧ (E.ex → V.new 20000 1 10 = sF)) := by
      obtain ⟨e1, e2, e3, e4⟩ := HA.out
      have h12 : St a No w2 (sca a (.slice none 0 0) (.slice none 0 0) sF) (.slice none 0 0) (.slice none 0 0) 0 [] sF w10 := by rw [hsF]; exact h11
      refine ⟨e1, ⟨_, _, 0, by omega, [], Y2.wide.mono h12.1 (fun k hk => ⟨.inr (hk.1.elim False.elim fun h => Nat.le_trans HCC.out.size h), hk.2⟩) (fun _ hk => hk.2), HCC.out.trans h12.2⟩, ?_, by rw [hsF, HSN.out]; rfl, by rw [hsF, HSN.out]; rfl, fun hx => ?_⟩
      · rw [hsF, HSN.out]
        refine ⟨by rw [e2]; exact HMM.out, fun hx => by rw [e2]; exact HX0.out (e1 ▸ hx), by rw [e3, e2], by rw [e4, e2], HPL.out, by show (-9223372036854775808 : Int) ≤ 0; decide, by rw [e1]; exact HOK.out.1, by show (0 : Int) ≤ 0 ∧ (0 : Int) ≤ 1000; decide, by show (-1 : Int) ≤ -1 ∧ (-1 : Int) ≤ 0; decide⟩
      · rw [hsF, HSN.out, hz hx, HOK.out.2 hx, ← HX.out, HX0.out hx]
        rfl
    clear hsF h11 hz H9
    simp only [lay_new6, puts, List.setIfInBounds_toArray, List.set_cons_succ, List.set_cons_zero]
    go_wp2_with fail
    go_ret2
    exact ⟨a, sF, rfl, HF.out⟩
end Go.Proofs.YtdgphoemjeakaaaGreatDoor.Y
namespace Go.Proofs.YtdgphoemjeakaaaGreatDoor.Y
open Rg
open Me (mw bld)
open Go.RowKit K P U Mg Wk
set_option maxRecDepth 100000
@[go_sem ↓] theorem exec_bld24 (ρ : Operand → Value) (dst : Option Tmp) (fs : Array (Nat × Operand)) (ty : TypeId) (pos : String) (after : Array Edge) (gd : Option (Nat × Bool)) (w : World) : (execOp ρ { dst := dst, op := .build 24 fs, type := ty, pos := pos, after := after, guard := gd }).run Tryz.prog w = bld 24 (fs.map fun x => (x.1, ρ x.2)) w := rfl
@[go_sem] theorem bld24 (w : World) : bld 24 #[(0, .int .i64 10000), (1, .int .i64 700), (2, .int .i64 60), (3, .int .i64 6), (4, .int .i64 1), (5, .int .i64 2000), (6, .int .i64 10000), (7, .int .i64 2000), (10, .int .i64 1), (11, .int .i64 30), (13, .int .i64 20000), (14, .int .i64 10), (15, .int .i64 100), (16, .int .i64 60), (17, .int .i64 3)] w = .ok (.value (.agg (cf vdef))) w := by
  kernel_rfl
noncomputable def sto (t : TypeId) (a v : Value) (w : World) : Result Next := (do Instr.storeAt t a v; pure .skip : Sem Next).run Tryz.prog w
theorem exec_sto24 (ρ : Operand → Value) (dst : Option Tmp) (a x : Operand) (ty : TypeId) (pos : String) (after : Array Edge) (gd : Option (Nat × Bool)) (w : World) : (execOp ρ { dst := dst, op := .store 24 a x, type := ty, pos := pos, after := after, guard := gd }).run Tryz.prog w = sto 24 (ρ a) (ρ x) w := rfl
theorem cf_one (v : Nat → Int) : (cf v).all (·.oneCell') = true := by kernel_rfl
theorem sto24 (w : World) (v0 v1 v2 v3 v4 v5 v6 v7 v8 v9 v10 v11 v12 v13 v14 v15 v16 v17 v18 v19 : Value) (v : Nat → Int) : sto 24 (.pointer (some ⟨w.heap.size, 0, none⟩)) (.agg (cf v)) (w.alloc (.cells #[v0, v1, v2, v3, v4, v5, v6, v7, v8, v9, v10, v11, v12, v13, v14, v15, v16, v17, v18, v19] 24)) = .ok .skip (w.alloc (.cells (cf v) 24)) := by
  simp only [sto, Sem.run_bind, run_storeAt_new (P := Tryz.prog) w 24 #[v0, v1, v2, v3, v4, v5, v6, v7, v8, v9, v10, v11, v12, v13, v14, v15, v16, v17, v18, v19] (cf v) (by kernel_rfl) (by kernel_rfl) (cf_one _)]
  rfl
attribute [local go_sem ↓] exec_sto24
attribute [local go_sem] sto24
theorem res_cell (fn : Func) (a : Tmp) (t : TypeId) (x : Addr) (v : Value) (tmps : Array Value) (w : World) (hf : fn.results = #[.cell a t]) (ha : tmps.getD a undef = .pointer (some x)) (h : (loadVar t x).run Tryz.prog w = .ok v w) : (results fn tmps).run Tryz.prog w = .ok v w := by
  have ha2 : tmps[a]?.getD undef = .pointer (some x) := by rw [← Array.getD_eq_getD_getElem?]; exact ha
  unfold results
  rw [hf]
  simp [ha2, asAddr, h]
set_option maxHeartbeats 8000000 in
theorem default_any (w : World) : Calls Tryz.prog 7 #[] w fun e w' => e = .returned (.agg (cf vdef)) ∧ Chg No w w' := by
  go_enter Tryz.func7, Tryz.ntmps7
  go_wp2_with fail
  have hB := Blk.new w (cf vdef) 24
  have hr := rowOf_blk hB
  rw [cf_size] at hr
  try simp only [Exit.inBlock, Exit.then]
  refine bodyPost_ret (v := .agg (cf vdef)) ?_ rfl ⟨rfl, (Chg.refl No w).alloc _⟩
  have h24 := load24 (w := w.alloc (.cells (cf vdef) 24)) (b := w.heap.size) (o := 0) (by rw [hr]; rfl)
  rw [hr] at h24
  generalize w.alloc (.cells (cf vdef) 24) = w1 at *
  generalize w.heap.size = B at *
  simp only [Instr.loadAt, Instr.sureAddr, Sem.run_bind, Sem.run_pure, Result.andThen_ok, Option.getD_some] at h24
  generalize cf vdef = v at *
  exact res_cell _ _ _ _ _ _ _ rfl rfl h24
theorem vs_one (s : V.Sys) (x : (Option Addr × Nat) × Bool) : (vs s x).all (·.oneCell') = true := by kernel_rfl
theorem exec_sto38 (ρ : Operand → Value) (dst : Option Tmp) (a x : Operand) (ty : TypeId) (pos : String) (after : Array Edge) (gd : Option (Nat × Bool)) (w : World) : (execOp ρ { dst := dst, op := .store 38 a x, type := ty, pos := pos, after := after, guard := gd }).run Tryz.prog w = sto 38 (ρ a) (ρ x) w := rfl
theorem sto38 (w : World) (s : V.Sys) (x : (Option Addr × Nat) × Bool) : sto 38 (.pointer (some ⟨w.heap.size, 0, none⟩)) (.agg (vs s x)) (w.alloc (.cells zcells 38)) = .ok .skip (w.alloc (.cells (vs s x) 38)) := by
  simp only [sto, Sem.run_bind, run_storeAt_new (P := Tryz.prog) w 38 zcells (vs s x) (by kernel_rfl) (by kernel_rfl) (vs_one _ _)]
  rfl
theorem see_at {a : At} {SS : Nat → Prop} {w0 w : World} {s : V.Sys} (h : Aft a SS w0 s w) (inv : Inv a s) (hr : s.rs.length ≤ 1000000) : Calls Tryz.prog 13 #[.pointer (some ⟨a.p, 0, none⟩)] w fun e w' => ∃ x : (Option Addr × Nat) × Bool, e = .returned (.agg (vs s x)) ∧ Own w' (New w) 41 4 (.slice x.1.1 s.pods.length x.1.2) s.pods.length (A.cellsOf s.pods) ∧ Chg No w w' := by
  obtain ⟨rv, tv, tn, _, tx, hs⟩ := h
  have h1 := inv.pl.ok.pods.len
  have h2 := inv.pl.ok.load
  have h3 := inv.pl.ok.qlen
  exact (see_any hs (by omega) (by omega) hr inv.pl.ok.rst).mono fun e w' ⟨x, h1, _, h2, h3⟩ => ⟨x, h1, h2, h3⟩
theorem no_text : (!(⟨#[]⟩ : ByteArray).toList.isEmpty) = false := by
  rw [ByteArray.toList, ByteArray.toList.loop]
  rfl
theorem vs_cells {w : World} {B : Nat} {s : V.Sys} {x : (Option Addr × Nat) × Bool} (h : Blk w B (vs s x) 38) : w.cell? ⟨B, 0, none⟩ = some (.int .i64 s.now) ∧ w.cell? ⟨B, 1, none⟩ = some (.int .i64 s.want) ∧ w.cell? ⟨B, 2, none⟩ = some (.bool s.ld.panic) ∧ w.cell? ⟨B, 3, none⟩ = some (.bool s.proxy) ∧ w.cell? ⟨B, 4, none⟩ = some (.slice x.1.1 s.pods.length x.1.2) ∧ w.cell? ⟨B, 5, none⟩ = some (.int .i64 s.q.length) ∧ w.cell? ⟨B, 6, none⟩ = some (.int .i64 (V.ends s.rs 2)) :=
  ⟨h.cell 0, h.cell 1, h.cell 2, h.cell 3, h.cell 4, h.cell 5, h.cell 6⟩
theorem vs_ends {w : World} {B : Nat} {s : V.Sys} {x : (Option Addr × Nat) × Bool} (h : Blk w B (vs s x) 38) : w.cell? ⟨B, 9, none⟩ = some (.int .i64 (V.ends s.rs 2)) ∧ w.cell? ⟨B, 10, none⟩ = some (.int .i64 (V.ends s.rs 3)) ∧ w.cell? ⟨B, 11, none⟩ = some (.int .i64 (V.ends s.rs 4)) ∧ w.cell? ⟨B, 12, none⟩ = some (.int .i64 (V.ends s.rs 5)) ∧ w.cell? ⟨B, 13, none⟩ = some (.int .i64 (V.ends s.rs 6)) :=
  ⟨h.cell 9, h.cell 10, h.cell 11, h.cell 12, h.cell 13⟩
theorem Aft.chg {a : At} {SS : Nat → Prop} {w0 w : World} {s : V.Sys} (h : Aft a SS w0 s w) : Chg SS w0 w := by
  obtain ⟨_, _, _, _, _, hs⟩ := h
  exact hs.2
theorem Aft.base {a : At} {SS : Nat → Prop} {w0 wr wk : World} {s : V.Sys} (h : Aft a SS w0 s wr) (c : Chg No wr wk) : Aft a (K.nx SS w0 wr) wk s wk := by
  obtain ⟨rv, tv, tn, htn, tx, hs⟩ := h
  exact ⟨rv, tv, tn, htn, tx, hs.base c⟩
theorem Aft.out {a : At} {w0 w1 wr wk w : World} {s s' : V.Sys} (h0 : Aft a No w1 s' wr) (c0 : Chg No w0 w1) (c : Chg No wr wk) (h : Aft a (K.nx No w1 wr) wk s w) : Chg No w0 w :=
  (c0.trans (h0.chg.trans c)).of_new (h.chg.mono fun _ _ hk => hk.1.elim False.elim fun h2 => Nat.le_trans c0.size h2)
end Go.Proofs.YtdgphoemjeakaaaGreatDoor.Y
