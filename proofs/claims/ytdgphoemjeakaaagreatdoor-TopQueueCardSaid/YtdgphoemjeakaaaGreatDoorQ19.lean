/- The whole service: what tick needs. -/
import Derived.Test.YtdgphoemjeakaaaGreatDoorQ16
import Derived.Test.YtdgphoemjeakaaaGreatDoorQ17
import Derived.Test.YtdgphoemjeakaaaGreatDoorQ18
import Derived.Test.YtdgphoemjeakaaaGreatDoorQ10
/-! The whole service: what tick needs. -/
namespace Go.Proofs.YtdgphoemjeakaaaGreatDoor.Y
open Go.Proofs.YtdgphoemjeakaaaGreatDoor.Rg
open Go.Proofs.YtdgphoemjeakaaaGreatDoor.Me
open Go.RowKit Go.Proofs.YtdgphoemjeakaaaGreatDoor Go.Proofs.YtdgphoemjeakaaaGreatDoor.K Go.Proofs.YtdgphoemjeakaaaGreatDoor.P Go.Proofs.YtdgphoemjeakaaaGreatDoor.U Go.Proofs.YtdgphoemjeakaaaGreatDoor.R

theorem sc16 (a : At) (rv tv : Value) (s : V.Sys) : (sca a rv tv s)[16]? = some (.int .i64 60) := by kernel_rfl
theorem sc17 (a : At) (rv tv : Value) (s : V.Sys) : (sca a rv tv s)[17]? = some (.int .i64 a.rd) := by kernel_rfl
theorem sc24 (a : At) (rv tv : Value) (s : V.Sys) : (sca a rv tv s)[24]? = some (.int .i64 s.ld.stable) := by kernel_rfl
theorem sc26 (a : At) (rv tv : Value) (s : V.Sys) : (sca a rv tv s)[26]? = some (.int .i64 s.ld.want) := by kernel_rfl
theorem sc28 (a : At) (rv tv : Value) (s : V.Sys) : (sca a rv tv s)[28]? = some (.int .i64 s.ld.excess) := by kernel_rfl
theorem sc31 (a : At) (rv tv : Value) (s : V.Sys) : (sca a rv tv s)[31]? = some (.int .i64 s.zs) := by kernel_rfl
theorem sc32 (a : At) (rv tv : Value) (s : V.Sys) : (sca a rv tv s)[32]? = some (.int .i64 s.lost) := by kernel_rfl
theorem sc33 (a : At) (rv tv : Value) (s : V.Sys) : (sca a rv tv s)[33]? = some tv := by kernel_rfl
theorem sc23 (a : At) (rv tv : Value) (s : V.Sys) : (sca a rv tv s)[23]? = some (.int .i64 s.ld.t) := by kernel_rfl
theorem sc25 (a : At) (rv tv : Value) (s : V.Sys) : (sca a rv tv s)[25]? = some (.int .i64 s.ld.quick) := by kernel_rfl
theorem sc_set20 (a : At) (rv tv : Value) (s : V.Sys) (v : Int) : (sca a rv tv s).setIfInBounds 20 (.int .i64 v) = sca a rv tv { s with now := v } := by kernel_rfl
theorem sc_set29 (a : At) (rv tv : Value) (s : V.Sys) (v : Int) : (sca a rv tv s).setIfInBounds 29 (.int .i64 v) = sca a rv tv { s with want := v } := by kernel_rfl
theorem sc_set30 (a : At) (rv tv : Value) (s : V.Sys) (v : Bool) : (sca a rv tv s).setIfInBounds 30 (.bool v) = sca a rv tv { s with proxy := v } := by kernel_rfl
theorem sc_set31 (a : At) (rv tv : Value) (s : V.Sys) (v : Int) : (sca a rv tv s).setIfInBounds 31 (.int .i64 v) = sca a rv tv { s with zs := v } := by kernel_rfl
theorem sc_set32 (a : At) (rv tv : Value) (s : V.Sys) (v : Int) : (sca a rv tv s).setIfInBounds 32 (.int .i64 v) = sca a rv tv { s with lost := v } := by kernel_rfl
theorem sc_set33 (a : At) (rv tv v : Value) (s : V.Sys) : (sca a rv tv s).setIfInBounds 33 v = sca a rv v s := by kernel_rfl
theorem sc_setld (a : At) (rv tv : Value) (s : V.Sys) (t st qu wn : Int) (pn : Bool) (ex : Int) : ((((((sca a rv tv s).setIfInBounds 23 (.int .i64 t)).setIfInBounds 24 (.int .i64 st)).setIfInBounds 25 (.int .i64 qu)).setIfInBounds 26 (.int .i64 wn)).setIfInBounds 27 (.bool pn)).setIfInBounds 28 (.int .i64 ex) = sca a rv tv { s with ld := ⟨t, st, qu, wn, pn, ex⟩ } := by kernel_rfl
theorem sc_row (a : At) (rv tv : Value) (s : V.Sys) : ∀ j, j < 20 → (sca a rv tv s)[j]? = (ca a.bu a.ini a.li a.rd)[j]? := fun j hj => Array.getElem?_append_left (by rw [ca_size]; exact hj)

section
variable {a : At} {SS : Nat → Prop} {w0 wB wk w' : World} {cs cs' : Array Value} {rv rv' tv tv' : Value} {tn tn' : Nat} {tx tx' : List Value} {s s' : V.Sys} {w : World}
theorem St.row (h : St a SS w0 (sca a rv tv s) rv' tv' tn tx s' w) : rowOf w a.p 0 20 = some (.agg (ca a.bu a.ini a.li a.rd)) := by
  rw [← ca_size a.bu a.ini a.li a.rd]
  refine rowOf_of fun j hj => ?_
  rw [Nat.zero_add, h.blk.cell]
  exact sc_row a rv tv s j (by rw [ca_size] at hj; exact hj)
/-- The second part turned in its own blocks alone. -/
theorem two_right {R Q : Rep} {S : Nat → Prop} (hR : U.Good R) (h : Two R Q w S) : ∃ B : Nat → Prop, Q w B ∧ (∀ k, B k → S k) ∧ ∀ (Q' : Rep) (w' : World), Q' w' B → Chg B w w' → Two R Q' w' S ∧ Chg S w w' := by
  obtain ⟨hb, A, B, hA, hB, hAB, r, q⟩ := h
  exact ⟨B, q, hB, fun Q' w' h c => ⟨⟨fun k hk => Nat.lt_of_lt_of_le (hb k hk) c.size, A, B, hA, hB, hAB, hR.chg r c fun k h1 h2 => hAB k h1 h2, h⟩, c.mono fun k _ h => hB k h⟩⟩
theorem two_left {R Q : Rep} {S : Nat → Prop} (hQ : U.Good Q) (h : Two R Q w S) : ∃ A : Nat → Prop, R w A ∧ (∀ k, A k → S k) ∧ ∀ (R' : Rep) (w' : World), R' w' A → Chg A w w' → Two R' Q w' S ∧ Chg S w w' := by
  obtain ⟨hb, A, B, hA, hB, hAB, r, q⟩ := h
  exact ⟨A, r, hA, fun R' w' h c => ⟨⟨fun k hk => Nat.lt_of_lt_of_le (hb k hk) c.size, A, B, hA, hB, hAB, h, hQ.chg q c fun k h1 h2 => hAB k h2 h1⟩, c.mono fun k _ h => hA k h⟩⟩
/-- The queue turned in its own blocks alone. -/
theorem Y2.queue_same {S : Nat → Prop} (x : Y2 a cs rv tv tn tx s w S) : ∃ C : Nat → Prop, B.Queue w C a.q s.q 100 s.ql ∧ ∀ (l : List (Int × Int)) (last : Int) (w' : World), B.Queue w' C a.q l 100 last → Chg C w w' →
    Y2 a cs rv tv tn tx { s with q := l, ql := last } w' S ∧ Chg S w w' := by
  obtain ⟨A1, h1, _, b1⟩ := two_right (One.good _ _ _) x
  obtain ⟨A2, h2, _, b2⟩ := two_right (One.good _ _ _) h1
  obtain ⟨A3, h3, _, b3⟩ := two_right LifeR.good h2
  obtain ⟨A4, h4, _, b4⟩ := two_left g5 h3
  refine ⟨A4, h4, fun l last w' h c => ?_⟩
  obtain ⟨e1, e2⟩ := b4 (QueueR a.q l last) w' h c
  obtain ⟨e1, e2⟩ := b3 _ w' e1 e2
  obtain ⟨e1, e2⟩ := b2 _ w' e1 e2
  exact b1 _ w' e1 e2
theorem St.rebase2 (h0 : St a SS w0 cs rv tv tn tx s wB) (c : Chg (K.nx SS w0 wB) wB wk) (h : St a (K.nx SS w0 wB) wk cs' rv' tv' tn' tx' s' w') : St a SS w0 cs' rv' tv' tn' tx' s' w' := by
  have h1 := h0.2.size
  have h2 := c.size
  refine ⟨Y2.wide.mono h.1 (fun k hk => ?_) fun _ hk => hk.2, h0.2.step (c.step h.2 fun _ _ h => h) fun k hk hT => hT.1.resolve_right (by omega)⟩
  obtain ⟨h3 | h3, h4⟩ := hk
  · exact ⟨h3.1, h4⟩
  · exact ⟨.inr (by omega), h4⟩
end
/-- Half of the first half of a tick. -/
def mid (rd : Int) (s : V.Sys) : V.Sys := { s with now := s.now + 1, q := s.q.dropWhile (B.late (s.now + 1) 60), rs := (s.q.takeWhile (B.late (s.now + 1) 60)).foldl (fun rs x => V.stand (s.now + 1) 4 rs x.1) s.rs, pods := s.pods.map (M.ripe (s.now + 1) rd) }
theorem inv_mid {li rd : Int} {s : V.Sys} (h : V.Inv li s) (l1 : li ≤ 1000) : V.Inv li (mid rd s) := by
  have h0 : V.Inv li { s with lost := 1 } := ⟨h.now0, h.pods, h.load, h.qlen, h.qat, h.ql, h.rst, h.dec, ⟨by show (0 : Int) ≤ 1; decide, by show (1 : Int) ≤ 1000; decide⟩, h.zs, h.want⟩
  have h1 := (h0.tick1 (rd := rd) l1).1
  have e : V.tick1 rd { s with lost := 1 } = { mid rd s with lost := 0 } := rfl
  rw [e] at h1
  exact ⟨h1.now0, h1.pods, h1.load, h1.qlen, h1.qat, h1.ql, h1.rst, h1.dec, h.lost, h1.zs, h1.want⟩
theorem tick1_lost {rd : Int} {s : V.Sys} (h : 0 < s.lost) : V.tick1 rd s = { mid rd s with lost := s.lost - 1 } := by
  unfold V.tick1
  rw [if_pos h]
  rfl
theorem tick1_told {rd : Int} {s : V.Sys} (h : ¬ 0 < s.lost) : V.tick1 rd s = { mid rd s with b0 := Me.putB 60 (s.now + 1) (V.scrape (mid rd s).pods (s.now + 1) (mid rd s).q.length) s.b0, b1 := Me.putB 6 (s.now + 1) (V.scrape (mid rd s).pods (s.now + 1) (mid rd s).q.length) s.b1, nw := s.now + 1 } := by
  unfold V.tick1
  rw [if_neg h]
  rfl
end Go.Proofs.YtdgphoemjeakaaaGreatDoor.Y
