/- The whole service: what tick needs. The whole service: tick. -/
import Derived.Test.YtdgphoemjeakaaaGreatDoorR29
import Derived.Test.YtdgphoemjeakaaaGreatDoorR23
import Derived.Test.YtdgphoemjeakaaaGreatDoorR24
import Derived.Test.YtdgphoemjeakaaaGreatDoorR14
import Derived.Deep.CutRange
namespace Go.Proofs.YtdgphoemjeakaaaGreatDoor.Y
open Rg
open Go.RowKit K P U Mg Wk
theorem sc16 (a : At) (rv tv : Value) (s : V.Sys) : (sca a rv tv s)[16]? = some (.int .i64 (a.v 16)) := by kernel_rfl
theorem sc17 (a : At) (rv tv : Value) (s : V.Sys) : (sca a rv tv s)[17]? = some (.int .i64 (a.v 17)) := by kernel_rfl
theorem sc24 (a : At) (rv tv : Value) (s : V.Sys) : (sca a rv tv s)[24]? = some (.int .i64 s.ld.stable) := by kernel_rfl
theorem sc26 (a : At) (rv tv : Value) (s : V.Sys) : (sca a rv tv s)[26]? = some (.int .i64 s.ld.want) := by kernel_rfl
theorem sc28 (a : At) (rv tv : Value) (s : V.Sys) : (sca a rv tv s)[28]? = some (.int .i64 s.ld.excess) := by kernel_rfl
theorem sc31 (a : At) (rv tv : Value) (s : V.Sys) : (sca a rv tv s)[31]? = some (.int .i64 s.zs) := by kernel_rfl
theorem sc32 (a : At) (rv tv : Value) (s : V.Sys) : (sca a rv tv s)[32]? = some (.int .i64 s.lost) := by kernel_rfl
theorem sc33 (a : At) (rv tv : Value) (s : V.Sys) : (sca a rv tv s)[33]? = some tv := by kernel_rfl
theorem sc_set20 (a : At) (rv tv : Value) (s : V.Sys) (v : Int) : (sca a rv tv s).setIfInBounds 20 (.int .i64 v) = sca a rv tv { s with now := v } := by kernel_rfl
theorem sc_set29 (a : At) (rv tv : Value) (s : V.Sys) (v : Int) : (sca a rv tv s).setIfInBounds 29 (.int .i64 v) = sca a rv tv { s with want := v } := by kernel_rfl
theorem sc_set30 (a : At) (rv tv : Value) (s : V.Sys) (v : Bool) : (sca a rv tv s).setIfInBounds 30 (.bool v) = sca a rv tv { s with proxy := v } := by kernel_rfl
theorem sc_set31 (a : At) (rv tv : Value) (s : V.Sys) (v : Int) : (sca a rv tv s).setIfInBounds 31 (.int .i64 v) = sca a rv tv { s with zs := v } := by kernel_rfl
theorem sc_set32 (a : At) (rv tv : Value) (s : V.Sys) (v : Int) : (sca a rv tv s).setIfInBounds 32 (.int .i64 v) = sca a rv tv { s with lost := v } := by kernel_rfl
theorem sc_set33 (a : At) (rv tv v : Value) (s : V.Sys) : (sca a rv tv s).setIfInBounds 33 v = sca a rv v s := by kernel_rfl
theorem sc_setld (a : At) (rv tv : Value) (s : V.Sys) (t st qu wn : Int) (pn : Bool) (ex : Int) : ((((((sca a rv tv s).setIfInBounds 23 (.int .i64 t)).setIfInBounds 24 (.int .i64 st)).setIfInBounds 25 (.int .i64 qu)).setIfInBounds 26 (.int .i64 wn)).setIfInBounds 27 (.bool pn)).setIfInBounds 28 (.int .i64 ex) = sca a rv tv { s with ld := ⟨t, st, qu, wn, pn, ex⟩ } := by kernel_rfl
theorem sc_row (a : At) (rv tv : Value) (s : V.Sys) : ∀ j, j < 20 → (sca a rv tv s)[j]? = (cf a.v)[j]? := fun j hj => Array.getElem?_append_left (by rw [cf_size]; exact hj)
section
variable {a : At} {SS : Nat → Prop} {w0 wB wk w' : World} {cs cs' : Array Value} {rv rv' tv tv' : Value} {tn tn' : Nat} {tx tx' : List Value} {s s' : V.Sys} {w : World}
theorem St.row (h : St a SS w0 (sca a rv tv s) rv' tv' tn tx s' w) : rowOf w a.p 0 20 = some (.agg (cf a.v)) := by
  rw [← cf_size a.v]
  refine rowOf_of fun j hj => ?_
  rw [Nat.zero_add, h.blk.cell]
  exact sc_row a rv tv s j (by rw [cf_size] at hj; exact hj)
theorem two_right {R Q : Rep} {S : Nat → Prop} (hR : U.Good R) (h : Two R Q w S) : ∃ B : Nat → Prop, Q w B ∧ (∀ k, B k → S k) ∧ ∀ (Q' : Rep) (w' : World), Q' w' B → Chg B w w' → Two R Q' w' S ∧ Chg S w w' := by
  obtain ⟨hb, A, B, hA, hB, hAB, r, q⟩ := h
  exact ⟨B, q, hB, fun Q' w' h c => ⟨⟨fun k hk => Nat.lt_of_lt_of_le (hb k hk) c.size, A, B, hA, hB, hAB, hR.chg r c fun k h1 h2 => hAB k h1 h2, h⟩, c.mono fun k _ h => hB k h⟩⟩
theorem two_left {R Q : Rep} {S : Nat → Prop} (hQ : U.Good Q) (h : Two R Q w S) : ∃ A : Nat → Prop, R w A ∧ (∀ k, A k → S k) ∧ ∀ (R' : Rep) (w' : World), R' w' A → Chg A w w' → Two R' Q w' S ∧ Chg S w w' := by
  obtain ⟨hb, A, B, hA, hB, hAB, r, q⟩ := h
  exact ⟨A, r, hA, fun R' w' h c => ⟨⟨fun k hk => Nat.lt_of_lt_of_le (hb k hk) c.size, A, B, hA, hB, hAB, h, hQ.chg q c fun k h1 h2 => hAB k h2 h1⟩, c.mono fun k _ h => hA k h⟩⟩
theorem Y2.queue_same {S : Nat → Prop} (x : Y2 a cs rv tv tn tx s w S) : ∃ C : Nat → Prop, B.Queue w C a.q s.q a.dp s.ql ∧ ∀ (l : List (Int × Int)) (last : Int) (w' : World), B.Queue w' C a.q l a.dp last → Chg C w w' →
    Y2 a cs rv tv tn tx { s with q := l, ql := last } w' S ∧ Chg S w w' := by
  obtain ⟨A1, h1, _, b1⟩ := two_right (One.good _ _ _) x
  obtain ⟨A2, h2, _, b2⟩ := two_right (One.good _ _ _) h1
  obtain ⟨A3, h3, _, b3⟩ := two_right LifeR.good h2
  obtain ⟨A4, h4, _, b4⟩ := two_left g5 h3
  refine ⟨A4, h4, fun l last w' h c => ?_⟩
  obtain ⟨e1, e2⟩ := b4 (QueueR a.q l a.dp last) w' h c
  obtain ⟨e1, e2⟩ := b3 _ w' e1 e2
  obtain ⟨e1, e2⟩ := b2 _ w' e1 e2
  exact b1 _ w' e1 e2
theorem St.rebase2 (h0 : St a SS w0 cs rv tv tn tx s wB) (c : Chg (K.nx SS w0 wB) wB wk) (h : St a (K.nx SS w0 wB) wk cs' rv' tv' tn' tx' s' w') : St a SS w0 cs' rv' tv' tn' tx' s' w' := by
  have h1 := h0.2.size
  have h2 := c.size
  refine ⟨Y2.wide.mono h.1 (fun k hk => ?_) fun _ hk => hk.2, h0.2.step (c.step h.2 fun _ _ h => h) fun k hk hT => hT.1.resolve_right (by omega)⟩
  obtain ⟨h3 | h3, h4⟩ := hk
  · exact ⟨h3.1, h4⟩
  · exact ⟨.inr (by omega), h4⟩
end
def mid (tio rd : Int) (s : V.Sys) : V.Sys := { s with now := s.now + 1, q := s.q.dropWhile (B.late (s.now + 1) tio), rs := (s.q.takeWhile (B.late (s.now + 1) tio)).foldl (fun rs x => V.stand (s.now + 1) 4 rs x.1) s.rs, pods := s.pods.map (M.ripe (s.now + 1) rd) }
theorem pl_mid {s : V.Sys} (h : V.Pl s.now s.made s.q s.pods s.rs) (tio rd : Int) : V.Pl (mid tio rd s).now (mid tio rd s).made (mid tio rd s).q (mid tio rd s).pods (mid tio rd s).rs :=
  (V.Pl.late (B.late (s.now + 1) tio) _ (h.later (now' := s.now + 1) (by omega))).ripe (s.now + 1) rd
theorem mid_len (tio rd : Int) (s : V.Sys) : (mid tio rd s).rs.length = s.rs.length := V.late_len ..
theorem tick1_lost {s : V.Sys} (h : 0 < s.lost) : V.tick1 3 s = { mid 60 3 s with lost := s.lost - 1 } := by
  unfold V.tick1
  rw [if_pos h]
  rfl
theorem tick1_told {s : V.Sys} (h : ¬ 0 < s.lost) : V.tick1 3 s = { mid 60 3 s with b0 := Me.putB 60 (s.now + 1) (V.scrape (mid 60 3 s).pods (s.now + 1) (mid 60 3 s).q.length) s.b0, b1 := Me.putB 6 (s.now + 1) (V.scrape (mid 60 3 s).pods (s.now + 1) (mid 60 3 s).q.length) s.b1, nw := s.now + 1 } := by
  unfold V.tick1
  rw [if_neg h]
  rfl
theorem want_def (since now want have_ mean waiting busy : Int) : wantV vdef since now want have_ mean waiting busy = P.wantAt since now want have_ mean waiting busy := rfl
theorem want_nn (v : Nat → Int) (since now want have_ mean waiting busy : Int) : 0 ≤ wantV v since now want have_ mean waiting busy := by
  unfold wantV
  split
  · omega
  · split <;> decide
end Go.Proofs.YtdgphoemjeakaaaGreatDoor.Y
namespace Go.Proofs.YtdgphoemjeakaaaGreatDoor.Y
open Rg
open Go.RowKit K P U Mg Wk
set_option maxRecDepth 100000
def lateTo (now : Int) (l : List (Int × Int)) (rs : List V.Req) (n : Nat) : List V.Req := (l.take n).foldl (fun rs x => V.stand now 4 rs x.1) rs
theorem lateTo_next {now : Int} {l : List (Int × Int)} {rs : List V.Req} {n : Nat} {x : Int × Int} (h : l[n]? = some x) : lateTo now l rs (n + 1) = V.stand now 4 (lateTo now l rs n) x.1 := by
  unfold lateTo
  rw [List.take_add_one, h, List.foldl_append]
  rfl
theorem lateTo_len (now : Int) (l : List (Int × Int)) (rs : List V.Req) (n : Nat) : (lateTo now l rs n).length = rs.length := V.late_len ..
theorem lateTo_all (now : Int) (l : List (Int × Int)) (rs : List V.Req) : lateTo now l rs l.length = l.foldl (fun rs x => V.stand now 4 rs x.1) rs := by
  unfold lateTo
  rw [List.take_length]
abbrev XT := ((Option Addr × Nat) × Bool) × Nat × (Option Addr × Nat)
def Xtr (a : At) (SS : Nat → Prop) (w0 : World) (rv tv : Value) (tn : Nat) (tx : List Value) (s : V.Sys) (news : XT → List Value) (x : XT) (b0 b1 b2 b3 : Bool) (w : World) : Prop :=
  St a SS w0 (sca a rv (cond b3 (.slice x.2.2.1 (tn + 1) x.2.2.2) tv) s) rv (cond b2 (.slice x.2.2.1 (tn + 1) x.2.2.2) tv) (cond b2 (tn + 1) tn) (cond b2 (tx ++ news x) tx) s w ∧ (b1 = true → b2 = false → Blk w x.2.1 (news x).toArray 38) ∧ (b0 = b0)
section
variable {a : At} {SS : Nat → Prop} {w0 : World} {rv tv : Value} {tn : Nat} {tx : List Value} {s : V.Sys} {news : XT → List Value} {w : World}
theorem Xtr.make (hn : ∀ (x : XT) (y : Nat × (Option Addr × Nat)), news (x.1, y) = news x) (x : XT) (h : Xtr a SS w0 rv tv tn tx s news x true false false false w) : Xtr a SS w0 rv tv tn tx s news (x.1, w.heap.size, x.2.2) true true false false (w.alloc (.cells (news x).toArray 38)) :=
  ⟨h.1.no ((Chg.refl No w).alloc _), fun _ _ => (by
    have h1 := hn x (w.heap.size, x.2.2)
    show Blk _ w.heap.size (news (x.1, (w.heap.size, x.2.2))).toArray 38
    rw [h1]
    exact Blk.new w _ _), rfl⟩
theorem Xtr.app (hn : ∀ (x : XT) (y : Nat × (Option Addr × Nat)), news (x.1, y) = news x) (ht : tn ≤ 1000) {va : Option Addr} {c : Nat} (x : XT) (h : Xtr a SS w0 rv (.slice va tn c) tn tx s news x true true false false w) : ∃ (C : Nat → Prop) (xs : List Value), Own w C 38 15 (.slice va tn c) tn xs ∧ (∀ j u, (news x)[j]? = some u → w.cell? ((⟨x.2.1, 0, none⟩ : Addr).add j) = some u) ∧ tn + 1 ≤ maxLen ∧ (tn + 1) * 128 ≤ 140737488355328 ∧ ∀ g' o' c' w', Own w' (nx C w w') 38 15 (.slice (some ⟨g', o', none⟩) (tn + 1) c') (tn + 1) (xs ++ news x) → Chg C w w' → Xtr a SS w0 rv (.slice va tn c) tn tx s news (x.1, x.2.1, (some ⟨g', o', none⟩, c')) true true true false w' := by
  obtain ⟨h1, h2, _⟩ := h
  have hb := h2 rfl rfl
  obtain ⟨C, ⟨hbd, ho⟩, back⟩ := h1.trace
  refine ⟨C, _, ho, fun j u hu => ?_, by simp only [maxLen]; omega, by omega, fun g' o' c' w' ho' hc' => ⟨?_, (fun _ h => by cases h), rfl⟩⟩
  · rw [Addr.add_lit, Nat.zero_add, hb.cell, ← Array.getElem?_toList]
    exact hu
  · have h3 := back (.slice (some ⟨g', o', none⟩) (tn + 1) c') (tn + 1) (tx ++ news x) w' ⟨fun k hk => hk.2, ho'⟩ hc'
    rw [← hn x (x.2.1, (some ⟨g', o', none⟩, c'))] at h3
    exact h3
theorem Xtr.store {va : Option Addr} {c : Nat} (x : XT) (h : Xtr a SS w0 rv (.slice va tn c) tn tx s news x true true true false w) : ∃ u0, w.cell? ⟨a.p, 33, none⟩ = some u0 ∧ w.frozen? ⟨a.p, 33, none⟩ = false ∧ Xtr a SS w0 rv (.slice va tn c) tn tx s news x true true true true (w.setCell ⟨a.p, 33, none⟩ (.slice x.2.2.1 (tn + 1) x.2.2.2)) := by
  have h1 := h.1
  refine ⟨_, by rw [h1.blk.cell]; exact sc33 _ _ _ _, h1.blk.free 33, ?_, (fun _ h => by cases h), rfl⟩
  have h2 := h1.cell 33 (.slice x.2.2.1 (tn + 1) x.2.2.2)
  rw [show (sca a rv (cond false (.slice x.2.2.1 (tn + 1) x.2.2.2) (.slice va tn c)) s).setIfInBounds 33 (.slice x.2.2.1 (tn + 1) x.2.2.2) = sca a rv (.slice x.2.2.1 (tn + 1) x.2.2.2) s from sc_set33 _ _ _ _ _] at h2
  exact h2
end
theorem reslice {a : At} {SS : Nat → Prop} {w0 : World} {rv : Value} {tx : List Value} {s : V.Sys} {w : World} {g o c : Nat} (h : St a SS w0 (sca a rv (.slice (some ⟨g, o, none⟩) 1001 c) s) rv (.slice (some ⟨g, o, none⟩) 1001 c) 1001 tx s w) : St a SS w0 (sca a rv (.slice (some ⟨g, o + 15, none⟩) 1000 (c - 1)) s) rv (.slice (some ⟨g, o + 15, none⟩) 1000 (c - 1)) 1000 (tx.drop 15) s (w.setCell ⟨a.p, 33, none⟩ (.slice (some ⟨g, o + 15, none⟩) 1000 (c - 1))) := by
  obtain ⟨C, ⟨hb, ho⟩, back⟩ := h.trace
  have h1 := ho.drop 1 (by omega)
  have h2 := back _ _ _ w ⟨fun k hk => hk.2, h1.mono fun k hk hC => ⟨.inl hC, hk⟩⟩ (Chg.refl C w)
  have h3 := h2.cell 33 (.slice (some ⟨g, o + 15, none⟩) 1000 (c - 1))
  rw [sc_set33] at h3
  exact h3
theorem scale_same (now : Int) (ps : List M.Pod) (made : Int) : M.scale (M.count ps) now ps made = (ps, made) := by
  unfold M.scale
  rw [Nat.sub_self]
  simp only [M.more]
  rw [Nat.sub_self]
  rfl
structure Half (a : At) (s s1 : V.Sys) : Prop where
  pl : V.Pl s1.now s1.made s1.q s1.pods s1.rs
  now : s1.now = s.now + 1
  len : s1.rs.length = s.rs.length
  made : s1.made ≤ 100 * s1.now
  ql : s1.ql ≤ s1.now
  mid : a.E.mid s1.now (dOf s1)
  lost : 0 ≤ s1.lost ∧ s1.lost ≤ 1000
  zs : -1 ≤ s1.zs ∧ s1.zs ≤ s1.now
  ex : a.E.ex → V.tick1 3 s = s1
def Nx (a : At) (s1 : V.Sys) (r : Nat) (x : Int × Int × Int × Bool × Int × Int) (y : Dd) : Prop := a.E.ok s1.now y ∧ (a.E.ex → x.1 = (nxD (dOf s1) s1.now r).stable ∧ x.2.1 = (nxD (dOf s1) s1.now r).quick ∧ x.2.2.1 = (nxD (dOf s1) s1.now r).want ∧ x.2.2.2.1 = (nxD (dOf s1) s1.now r).panic ∧ x.2.2.2.2.1 = (nxD (dOf s1) s1.now r).excess ∧
  y = { dOf s1 with wl := (nxD (dOf s1) s1.now r).l, hl := s1.now, si := (nxD (dOf s1) s1.now r).since, mo := (nxD (dOf s1) s1.now r).most, dl := s1.now })
theorem tick2_eq {a : At} {s1 : V.Sys} {r : Nat} {st qu wn ex' c : Int} {pn : Bool} {y : Dd} (h : Nx a s1 r (st, qu, wn, pn, ex', c) y) (hx : a.E.ex) (hr : (M.ready s1.pods).length = r) {px : Bool} {zt wt : Int} (h1 : P.proxy (a.v 13) r ex' = px) (h2 : P.nextState s1.zs s1.now px = zt) (h3 : wantV a.v zt s1.now wn (M.count s1.pods) st s1.q.length (V.flying s1.rs).length = wt) (hv : a.v = vdef) :
    V.tick2 20000 10 s1 = { withD s1 y with ld := ⟨s1.now, st, qu, wn, pn, ex'⟩, proxy := px, zs := zt, want := wt } := by
  obtain ⟨-, h⟩ := h
  obtain ⟨e1, e2, e3, e4, e5, e6⟩ := h hx
  dsimp only at e1 e2 e3 e4 e5
  rw [hv] at h1 h3
  rw [want_def] at h3
  subst hr
  have e0 : De.nextD 20000 10 s1.b0 s1.b1 s1.wl s1.si s1.mo s1.now (M.ready s1.pods).length = nxD (dOf s1) s1.now (M.ready s1.pods).length := by
    unfold nxD
    rfl
  generalize nxD (dOf s1) s1.now (M.ready s1.pods).length = D at *
  unfold V.tick2
  rw [← h3, ← h2, ← h1, e0, e1, e2, e3, e4, e5, e6]
  rfl
theorem sc_size (a : At) (rv tv : Value) (s : V.Sys) : (sca a rv tv s).size = 34 := by kernel_rfl
theorem St.ld_ok {a : At} {SS : Nat → Prop} {w0 : World} {rv tv : Value} {tn : Nat} {tx : List Value} {s1 : V.Sys} {y : Dd} {d : V.Dec} {w : World} (h : St a SS w0 (sca a rv tv { s1 with ld := d }) rv tv tn tx (withD s1 y) w) : St a SS w0 (sca a rv tv { withD s1 y with ld := d }) rv tv tn tx { withD s1 y with ld := d } w := h
set_option maxHeartbeats 8000000 in
theorem tick_any {a : At} {SS : Nat → Prop} {w0 : World} {rv tv : Value} {tn : Nat} {tx : List Value} {s : V.Sys} {w : World} (h : St a SS w0 (sca a rv tv s) rv tv tn tx s w) (ht : tn ≤ 1000) (inv : Inv a s) (n1 : s.now + 1 ≤ 1000000) (hr : s.rs.length ≤ 1000000) :
    Calls Tryz.prog 31 #[.pointer (some ⟨a.p, 0, none⟩)] w fun e w' => e = .returned (.tuple #[]) ∧ ∃ (tv' : Value) (tn' : Nat), tn' ≤ 1000 ∧ ∃ (tx' : List Value) (s' : V.Sys), Inv a s' ∧ s'.now = s.now + 1 ∧ s'.rs.length = s.rs.length ∧ (a.E.ex → V.tick 20000 10 3 s = s') ∧ St a SS w0 (sca a rv tv' s') rv tv' tn' tx' s' w' := by
  have hz := inv.pl.now0
  have HI := Lib.hid inv
  obtain ⟨-, -, -, -, -, -, -, hmo, -, -, -, -, ⟨t0, t1⟩, ⟨r0, r1⟩⟩ := may_bd inv.may
  have H := Lib.hid h
  have c20 : w.cell? ⟨a.p, 20, none⟩ = some (.int .i64 s.now) := by rw [h.blk.cell, sc20]
  have f20 := h.blk.free 20
  clear h inv
  go_enter Tryz.func31, Tryz.ntmps31
  go_wp2_with fail
  have H1 : Hid (St a SS w0 (sca a rv tv { s with now := s.now + 1 }) rv tv tn tx { s with now := s.now + 1 } (w.setCell ⟨a.p, 20, none⟩ (.int .i64 (s.now + 1)))) := by
    have h1 := H.out.cell 20 (.int .i64 (s.now + 1))
    rw [sc_set20] at h1
    exact h1
  clear H c20 f20
  generalize w.setCell ⟨a.p, 20, none⟩ (.int .i64 (s.now + 1)) = w1 at *
  obtain ⟨lt, hlt⟩ : ∃ lt, s.q.takeWhile (B.late (s.now + 1) (a.v 16)) = lt := ⟨_, rfl⟩
  obtain ⟨qd, hqd⟩ : ∃ qd, s.q.dropWhile (B.late (s.now + 1) (a.v 16)) = qd := ⟨_, rfl⟩
  have HLT := Lib.hid hlt
  have HQD := Lib.hid hqd
  have hltl : lt.length ≤ 200 := by
    have := (List.takeWhile_sublist (p := B.late (s.now + 1) (a.v 16)) (l := s.q)).length_le
    have := HI.out.pl.ok.qlen
    rw [hlt] at *
    omega
  have HLM : Hid (∀ x, x ∈ lt → 0 ≤ x.1 ∧ x.1 < s.rs.length) := fun x hx => by
    rw [← hlt] at hx
    exact (HI.out.pl.ok.qat x ((List.takeWhile_sublist _).subset hx)).1
  have HB1 := Lib.hid (H1.out.1)
  clear hlt hqd
  refine tik1_at (by kernel_rfl) a.p a.q (s.now + 1) lt.length (a.v 16) (fun x b w' => Chg (K.nx SS w0 w1) w1 w' ∧ Y2 a (sca a rv tv { s with now := s.now + 1 }) rv tv tn tx (cond b { s with now := s.now + 1, q := qd } { s with now := s.now + 1 }) w' (K.nx SS w0 w1) ∧ (b = true → Own w' (fun k => w1.heap.size ≤ k) 3 1 (.slice x.1 lt.length x.2) lt.length (lt.map fun x => .int .i64 x.1)))
    (fun _ w' y => by rw [(St.start y.2.1).blk.cell]; exact sc20 _ _ _ _) (fun _ w' y => by rw [(St.start y.2.1).blk.cell]; exact sc16 _ _ _ _) (fun _ w' y => (waits_any (St.start y.2.1) (sc21 a rv tv _)).mono fun e w'' ⟨h1, h2⟩ => ⟨h1, y.1.trans h2.of_no, Y2.good.kept y.2.1 h2, fun hb => by cases hb⟩) (fun x w' y => ?_) _ rfl rfl (none, 0) ⟨(Chg.refl _ w1).drew, Y2.good.kept HB1.out (Chg.refl No w1).drew, fun hb => by cases hb⟩ fun x w2 h2 => ?_
  · obtain ⟨y1, y2, _⟩ := y
    obtain ⟨C, hq, back⟩ := Y2.queue_same y2
    refine (B.late_any w' C a.q s.q a.dp s.ql (s.now + 1) (a.v 16) hq (by have := HI.out.pl.ok.qlen; omega) (fun x hx => by have := (HI.out.pl.ok.qat x hx).2; omega) (by omega) (by omega) (by omega)).mono ?_
    rintro e w'' ⟨v, rfl, ho, hq', hc⟩
    rw [HLT.out] at ho
    rw [HQD.out] at hq'
    obtain ⟨va, ca', rfl⟩ := ho.sl
    obtain ⟨z1, z2⟩ := back qd s.ql w'' hq' hc
    exact ⟨(va, ca'), rfl, y1.trans z2, z1, fun _ => ho.mono fun k _ hk => Nat.le_trans y1.size hk⟩
  obtain ⟨c2, y2, o2⟩ := h2
  obtain ⟨xa, xc⟩ := x
  have HO2 := Lib.hid (o2 rfl)
  have HS2 : Hid (St a (K.nx SS w0 w1) w2 (sca a rv tv { s with now := s.now + 1 }) rv tv tn tx { s with now := s.now + 1, q := qd } w2) := St.start y2
  have C2 := Lib.hid c2
  have HDIS : Hid (∀ k, w1.heap.size ≤ k → K.nx SS w0 w1 k → False) := fun k h1 h2 => by have := h2.2; omega
  clear c2 y2 o2 HB1
  simp only [lay_tik1, puts, List.setIfInBounds_toArray, List.set_cons_succ, List.set_cons_zero]
  go_wp2_with fail
  go_loopw [26] (fun i wr => ∃ n : Nat, n ≤ lt.length ∧ i = .int .i64 n ∧ Hid (St a (K.nx SS w0 w1) w2 (sca a rv tv { s with now := s.now + 1 }) rv tv tn tx { s with now := s.now + 1, q := qd, rs := lateTo (s.now + 1) lt s.rs n } wr)) (fun i _ => lt.length - (intOf i).toNat)
  case atStart => exact ⟨0, Nat.zero_le _, rfl, HS2.out⟩
  case round =>
    obtain ⟨n, hk, rfl, HR⟩ := hrel
    by_cases hnl : n < lt.length
    · obtain ⟨x, hx⟩ : ∃ x, lt[n]? = some x := ⟨lt[n], List.getElem?_eq_getElem hnl⟩
      obtain ⟨x0, x1⟩ := HLM.out x (List.mem_of_getElem? hx)
      obtain ⟨kx, hkx⟩ : ∃ kx : Nat, x.1 = kx := ⟨x.1.toNat, by omega⟩
      have ho := HO2.out.chg HR.out.2 HDIS.out
      obtain ⟨g5, o5, rfl, hS, hg, hcap, hmax⟩ := ho.some_ (by omega)
      have e0 : wr.cell? ⟨g5, o5 + n, none⟩ = some (.int .i64 kx) := by
        rw [ho.cellAt n (by omega), List.getElem?_map, hx, ← hkx]; rfl
      have HN := Lib.hid (lateTo_next (now := s.now + 1) (rs := s.rs) hx)
      have hll := lateTo_len (s.now + 1) lt s.rs n
      clear ho hS hmax hx
      go_wp2_with fail
      refine (stand_any HR.out (sc22 a rv tv _) (sc20 a rv tv _) kx (by show kx < (lateTo (s.now + 1) lt s.rs n).length; omega) (by show (lateTo (s.now + 1) lt s.rs n).length ≤ _; omega) 4).mono ?_
      rintro e w4 ⟨rfl, h4⟩
      have H4 := Lib.hid h4
      clear h4
      go_wp2_with fail
      go_roundw
      case rel =>
        refine ⟨n + 1, by omega, by go_num, ?_⟩
        rw [HN.out, hkx]
        exact H4.out
      case measure => simp [intOf]; omega
    · obtain rfl : n = lt.length := by omega
      have H3 : Hid (St a SS w0 (sca a rv tv { s with now := s.now + 1 }) rv tv tn tx { s with now := s.now + 1, q := qd, rs := lateTo (s.now + 1) lt s.rs lt.length } wr) := St.rebase2 H1.out C2.out HR.out
      clear HR HS2 HO2 C2 H1 HDIS
      generalize hrs : lateTo (s.now + 1) lt s.rs lt.length = rs2 at *
      have HRS : Hid (mid (a.v 16) (a.v 17) s = { s with now := s.now + 1, q := qd, rs := rs2, pods := s.pods.map (M.ripe (s.now + 1) (a.v 17)) }) := by
        show _ = _
        unfold mid
        rw [HLT.out, HQD.out, ← hrs, lateTo_all]
      clear hrs
      obtain ⟨OK, hps, _⟩ := pods_small (n := s.rs.length) HI.out.pl.ok.pods (by have := HI.out.pl.ok.load; omega) hr (by decide) (by omega)
      have HOK := Lib.hid OK
      clear OK
      go_wp2_with fail
      refine tik6_at (by kernel_rfl) a.p a.l (s.now + 1) (a.v 17) (fun _ b w' => St a SS w0 (sca a rv tv { s with now := s.now + 1 }) rv tv tn tx (cond b (mid (a.v 16) (a.v 17) s) { s with now := s.now + 1, q := qd, rs := rs2 }) w') (fun _ _ y => by rw [y.blk.cell]; exact sc20 _ _ _ _) (fun _ _ y => by rw [y.blk.cell]; exact sc17 _ _ _ _) (fun _ w' y => (pods_any y (sc21 a rv tv _)).mono fun e w'' ⟨h1, h2⟩ => ⟨h1, y.no h2⟩) (fun _ w' y => ?_) _ rfl rfl () (H3.out.no (Chg.refl No _).drew) fun _ w3 h3 => ?_
      · obtain ⟨C, hl, back⟩ := y.life
        refine (A.ripe_any w' C a.l s.pods s.made hl HOK.out (s.now + 1) (a.v 17) r0 r1).mono fun e w'' ⟨h1, h2, h3⟩ => ⟨h1, ?_⟩
        show St a SS w0 _ rv tv tn tx (mid (a.v 16) (a.v 17) s) w''
        rw [HRS.out]
        exact back _ s.made w'' (LifeR.wide.nx' LifeR.good h2) h3
      obtain ⟨sm, hsm⟩ : ∃ sm, mid (a.v 16) (a.v 17) s = sm := ⟨_, rfl⟩
      have H4 : Hid (St a SS w0 (sca a rv tv sm) rv tv tn tx sm w3) := by rw [← hsm]; exact h3
      have HPM : Hid (V.Pl sm.now sm.made sm.q sm.pods sm.rs) := by rw [← hsm]; exact pl_mid HI.out.pl _ _
      have m1 : sm.now = s.now + 1 := by rw [← hsm]; rfl
      have m2 : sm.rs.length = s.rs.length := by rw [← hsm]; exact mid_len _ _ _
      have m3 : sm.lost = s.lost := by rw [← hsm]; rfl
      have HMD : Hid (sm.made = s.made ∧ sm.ql = s.ql ∧ sm.zs = s.zs ∧ dOf sm = dOf s) := by rw [← hsm]; exact ⟨rfl, rfl, rfl, rfl⟩
      have HSM := Lib.hid hsm
      clear h3 H3 HRS HOK hps HLT HQD HLM hltl hsm
      simp only [lay_tik6, puts, List.setIfInBounds_toArray, List.set_cons_succ, List.set_cons_zero]
      have c32 : w3.cell? ⟨a.p, 32, none⟩ = some (.int .i64 s.lost) := by rw [H4.out.blk.cell, ← m3]; exact sc32 _ _ _ _
      have f32 := H4.out.blk.free 32
      have hlo := HI.out.lost
      have HHALF : Hid (∀ s1 : V.Sys, V.Pl s1.now s1.made s1.q s1.pods s1.rs → s1.now = s.now + 1 → s1.rs.length = s.rs.length → s1.made = s.made → s1.ql = s.ql → s1.zs = s.zs → a.E.mid s1.now (dOf s1) → (0 ≤ s1.lost ∧ s1.lost ≤ 1000) → (a.E.ex → V.tick1 3 s = s1) → Half a s s1) := fun s1 h1 h2 h3 h4 h5 h6 h7 h8 h9 => by
        have g1 := HI.out.pl.ok.pods.made
        have g2 := HI.out.ql
        have g3 := HI.out.zs
        exact ⟨h1, h2, h3, by omega, by omega, h7, h8, by omega, h9⟩
      go_upto_if 50 with fail
      go_cut [] from 6 (fun wx => Hid (∃ s1, Half a s s1 ∧ St a SS w0 (sca a rv tv s1) rv tv tn tx s1 wx))
      case first =>
        by_cases hlost : 0 < s.lost
        · have k1 : decide (0 < s.lost) = true := decide_eq_true hlost
          go_wp2_with fail
          go_meet
          have h5 := H4.out.cell 32 (.int .i64 (s.lost - 1))
          rw [sc_set32] at h5
          obtain ⟨d1, d2, d3, d4⟩ := HMD.out
          refine ⟨{ sm with lost := s.lost - 1 }, HHALF.out _ HPM.out m1 m2 d1 d2 d3 ?_ ⟨by show 0 ≤ s.lost - 1; omega, by show s.lost - 1 ≤ 1000; omega⟩ (fun hx => ?_), h5⟩
          · show a.E.mid sm.now (dOf sm)
            rw [m1, d4]
            exact a.E.lose _ _ hz HI.out.dec
          · rw [tick1_lost hlost, ← HSM.out, HI.out.exv hx]
            rfl
        · have k1 : decide (0 < s.lost) = false := decide_eq_false hlost
          go_wp2_with fail
          refine tik9_at (by kernel_rfl) a.p a.d sm.now (fun x b0 b1 w' => (b0 = true → (0 ≤ x.1 ∧ x.1 ≤ 1125899906842624) ∧ (a.E.ex → x.1 = V.scrape sm.pods sm.now sm.q.length)) ∧ ∃ y : Dd, (b1 = false → y = dOf sm) ∧ (b1 = true → a.E.mid sm.now y ∧ (a.E.ex → y = { dOf sm with b0 := Me.putB 60 sm.now (V.scrape sm.pods sm.now sm.q.length) sm.b0, b1 := Me.putB 6 sm.now (V.scrape sm.pods sm.now sm.q.length) sm.b1, nw := sm.now })) ∧ St a SS w0 (sca a rv tv sm) rv tv tn tx (withD sm y) w')
            (fun _ _ _ y => by obtain ⟨_, d, _, _, y⟩ := y; rw [y.blk.cell]; exact sc20 _ _ _ _) (fun _ w' y => by
              obtain ⟨y1, d, y2, y3, y4⟩ := y
              exact (decides_any y4 (sc21 a rv tv _)).mono fun e w'' ⟨h1, h2⟩ => ⟨h1, y1, d, y2, y3, y4.no h2⟩) (fun _ w' y => ?_) (fun x w' y => ?_) _ rfl rfl (0, 0) ⟨(fun h => by cases h), dOf sm, (fun _ => rfl), (fun h => by cases h), H4.out.no (Chg.refl No _).drew⟩ fun x w4 h4 => ?_
          · obtain ⟨y1, d, y2, y3, y4⟩ := y
            obtain rfl := y2 rfl
            exact (scrape_any (s := sm) y4 HI.out.may HI.out.exv HPM.out (by omega) (by omega)).mono fun e w'' ⟨val, h1, h2, h3, h4⟩ => ⟨val, h1, (fun _ => ⟨h2, h3⟩), dOf sm, (fun _ => rfl), (fun h => by cases h), y4.no h4⟩
          · obtain ⟨y1, d, y2, y3, y4⟩ := y
            obtain rfl := y2 rfl
            obtain ⟨⟨v0, v1⟩, v2⟩ := y1 rfl
            obtain ⟨C, hd, back⟩ := y4.dec
            obtain ⟨d1, d2, d3, d4⟩ := HMD.out
            have hd' : a.E.rep a.dv a.d (dOf sm) w' C := hd
            have hok : a.E.ok s.now (dOf sm) := by rw [d4]; exact HI.out.dec
            have hput := a.E.put a.dv a.d (dOf sm) s.now x.1 w' C (by rw [HI.out.dv]; exact HI.out.may) (by rw [HI.out.dv]; exact HI.out.exv) hz n1 hok v0 v1 hd'
            rw [← m1] at hput
            refine hput.mono ?_
            rintro e w'' ⟨c, y, rfl, h1, h2, h3, h4⟩
            exact ⟨c, rfl, (fun _ => ⟨⟨v0, v1⟩, v2⟩), y, (fun h => by cases h), (fun _ => ⟨h3, fun hx => by rw [h4 hx, v2 hx]; rfl⟩), back y w'' h1 h2⟩
          obtain ⟨-, y, -, y3, y4⟩ := h4
          obtain ⟨y5, y6⟩ := y3 rfl
          have H5 := Lib.hid y4
          have HY := Lib.hid (And.intro y5 y6)
          clear y3 y4 y5 y6 H4 c32 f32
          simp only [lay_tik9, puts, List.setIfInBounds_toArray, List.set_cons_succ, List.set_cons_zero]
          go_wp2_with fail
          go_meet
          obtain ⟨d1, d2, d3, d4⟩ := HMD.out
          refine ⟨withD sm y, HHALF.out _ HPM.out m1 m2 d1 d2 d3 HY.out.1 (by show 0 ≤ sm.lost ∧ sm.lost ≤ 1000; omega) (fun hx => ?_), H5.out⟩
          rw [tick1_told (Int.not_lt.2 hlost), HY.out.2 hx, ← HSM.out, HI.out.exv hx]
          rfl
      case rest =>
        obtain ⟨s1, HF, h5⟩ := hcut.out
        have H5 := Lib.hid h5
        have HP1 := Lib.hid HF.pl
        have hnow := HF.now
        have hlen1 := HF.len
        have hmade := HF.made
        have hmade0 := HF.pl.ok.pods.made.1
        have hql1 := HF.ql
        have HMI := Lib.hid HF.mid
        have hlo1 := HF.lost
        have hzs1 := HF.zs
        have HEX1 := Lib.hid HF.ex
        clear hcut h5 HF H4 c32 f32 HHALF HMD HSM HPM m1 m2 m3 hlo
        have hcnt := HP1.out.ok.pods.cnt
        have hrl := V.ready_len s1.pods
        have hqlen := HP1.out.ok.qlen
        obtain ⟨hpk, hpl, _⟩ := pods_small (n := s1.rs.length) HP1.out.ok.pods (by have := HP1.out.ok.load; omega) (by omega) (by decide) (by omega)
        have HPK := Lib.hid hpk
        obtain ⟨rdy, hrdy⟩ : ∃ rdy, (M.ready s1.pods).length = rdy := ⟨_, rfl⟩
        have HRD := Lib.hid hrdy
        rw [hrdy] at hrl
        clear hpk hrdy
        go_wp2_with fail
        refine (pods_any H5.out (sc21 a rv tv _)).mono ?_
        rintro e w6 ⟨rfl, hc6⟩
        have H6 := Lib.hid (H5.out.no hc6)
        clear H5 hc6
        go_wp2_with fail
        obtain ⟨C, hl, _⟩ := H6.out.life
        refine (A.ready_any w6 C a.l s1.pods s1.made hl (by omega)).mono ?_
        rintro e w7 ⟨v7, rfl, ho7, hc7⟩
        rw [HRD.out] at ho7
        obtain ⟨va7, ca7, rfl⟩ := ho7.sl
        have H7 := Lib.hid (H6.out.no hc7)
        clear H6 hl ho7 hc7
        go_wp2_with fail
        refine tik11_at (by kernel_rfl) a.p a.d s1.now rdy (fun x b0 b1 w' => ∃ y : Dd, (b0 = false → y = dOf s1) ∧ (b0 = true → Nx a s1 rdy x y) ∧ St a SS w0 (cond b1 (sca a rv tv { s1 with ld := ⟨s1.now, x.1, x.2.1, x.2.2.1, x.2.2.2.1, x.2.2.2.2.1⟩ }) (sca a rv tv s1)) rv tv tn tx (withD s1 y) w')
          (fun _ _ y => by obtain ⟨d, _, _, y⟩ := y; rw [y.blk.cell]; exact sc20 _ _ _ _) (fun _ w' y => by
            obtain ⟨d, y2, y3, y4⟩ := y
            exact (decides_any y4 (sc21 a rv tv _)).mono fun e w'' ⟨h1, h2⟩ => ⟨h1, d, y2, y3, y4.no h2⟩) (fun _ w' y => ?_) (fun x w' y => ?_) _ rfl rfl rfl (0, 0, 0, false, 0, 0) ⟨dOf s1, (fun _ => rfl), (fun h => by cases h), H7.out.no (Chg.refl No _).drew⟩ fun x w8 h8 => ?_
        · obtain ⟨d, y2, y3, y4⟩ := y
          obtain rfl := y2 rfl
          have y5 : St a SS w0 (sca a rv tv s1) rv tv tn tx s1 w' := y4
          obtain ⟨C, hd, back⟩ := y5.dec
          refine (a.E.next a.dv a.d (dOf s1) s1.now rdy w' C (by rw [HI.out.dv]; exact HI.out.may) (by rw [HI.out.dv]; exact HI.out.exv) (by omega) (by omega) HMI.out (by omega) hd).mono ?_
          rintro e w'' ⟨st, qu, wn, ex', c, pn, y, rfl, h1, h2, h3, h4⟩
          exact ⟨(st, qu, wn, pn, ex', c), rfl, y, (fun h => by cases h), (fun _ => ⟨h3, h4⟩), back y w'' h1 h2⟩
        · obtain ⟨d, y2, y3, y4⟩ := y
          refine ⟨Blk.there y4.blk 23 6 (by show 29 ≤ (sca a rv tv s1).size; rw [sc_size]; decide), d, (fun h => by cases h), y3, ?_⟩
          have h6 := (((((y4.cell 23 (.int .i64 s1.now)).cell 24 (.int .i64 x.1)).cell 25 (.int .i64 x.2.1)).cell 26 (.int .i64 x.2.2.1)).cell 27 (.bool x.2.2.2.1)).cell 28 (.int .i64 x.2.2.2.2.1)
          have e6 := sc_setld a rv tv s1 s1.now x.1 x.2.1 x.2.2.1 x.2.2.2.1 x.2.2.2.2.1
          rw [show ((((((cond false (sca a rv tv { s1 with ld := ⟨s1.now, x.1, x.2.1, x.2.2.1, x.2.2.2.1, x.2.2.2.2.1⟩ }) (sca a rv tv s1)).setIfInBounds 23 (.int .i64 s1.now)).setIfInBounds 24 (.int .i64 x.1)).setIfInBounds 25 (.int .i64 x.2.1)).setIfInBounds 26 (.int .i64 x.2.2.1)).setIfInBounds 27 (.bool x.2.2.2.1)).setIfInBounds 28 (.int .i64 x.2.2.2.2.1) = _ from e6] at h6
          exact h6
        obtain ⟨y, -, y3, y4⟩ := h8
        obtain ⟨st, qu, wn, pn, ex', c⟩ := x
        have HNX := Lib.hid (y3 rfl)
        obtain ⟨sA, hsA⟩ : ∃ sA : V.Sys, sA = { withD s1 y with ld := ⟨s1.now, st, qu, wn, pn, ex'⟩ } := ⟨_, rfl⟩
        have H8 : Hid (St a SS w0 (sca a rv tv sA) rv tv tn tx sA w8) := by
          rw [hsA]
          exact (St.ld_ok y4)
        clear y3 y4 H7
        simp only [lay_tik11, puts, List.setIfInBounds_toArray, List.set_cons_succ, List.set_cons_zero]
        have a1 : sA.now = s1.now := by rw [hsA]; rfl
        have a2 : sA.ld.excess = ex' := by rw [hsA]
        have a3 : sA.zs = s1.zs := by rw [hsA]; rfl
        have a4 : sA.ld.want = wn := by rw [hsA]
        have a5 : sA.ld.stable = st := by rw [hsA]
        have a6 : sA.pods = s1.pods := by rw [hsA]; rfl
        have a7 : sA.q = s1.q := by rw [hsA]; rfl
        have a8 : sA.rs = s1.rs := by rw [hsA]; rfl
        have HSA := Lib.hid hsA
        clear hsA
        go_wp2_with fail
        obtain ⟨px, hpx⟩ : ∃ px, P.proxy (a.v 13) rdy ex' = px := ⟨_, rfl⟩
        have HPX := Lib.hid hpx
        clear hpx
        refine tik12_at (by kernel_rfl) (cf a.v) a.p rdy ex' px (fun _ b w' => St a SS w0 (cond b (sca a rv tv { sA with proxy := px }) (sca a rv tv sA)) rv tv tn tx sA w') (fun _ _ y => y.row) (fun _ _ y => by rw [y.blk.cell, ← a2]; exact sc28 _ _ _ _) (fun _ w' y => (proxy_w a.v HI.out.may rdy ex' w').mono fun e w'' ⟨h1, h2⟩ => ⟨by rw [h1, HPX.out], y.no h2⟩) (fun _ w' y => ?_) _ rfl rfl rfl () (H8.out.no (Chg.refl No _).drew) fun _ w9 h9 => ?_
        · refine ⟨_, by rw [y.blk.cell]; exact sc30 _ _ _ _, y.blk.free 30, ?_⟩
          have h6 := y.cell 30 (.bool px)
          have e6 : (cond false (sca a rv tv { sA with proxy := px }) (sca a rv tv sA)).setIfInBounds 30 (.bool px) = sca a rv tv { sA with proxy := px } := sc_set30 _ _ _ _ _
          rw [e6] at h6
          exact h6
        have H9 : Hid (St a SS w0 (sca a rv tv { sA with proxy := px }) rv tv tn tx { sA with proxy := px } w9) := h9
        clear h9 H8
        simp only [lay_tik12, puts, List.setIfInBounds_toArray, List.set_cons_succ, List.set_cons_zero]
        go_wp2_with fail
        obtain ⟨zt, hzt⟩ : ∃ zt, P.nextState s1.zs s1.now px = zt := ⟨_, rfl⟩
        have HZT := Lib.hid hzt
        clear hzt
        refine tik13_at (by kernel_rfl) a.p s1.now s1.zs px zt (fun _ b w' => St a SS w0 (cond b (sca a rv tv { sA with proxy := px, zs := zt }) (sca a rv tv { sA with proxy := px })) rv tv tn tx sA w') (fun _ _ y => by rw [y.blk.cell, ← a3]; exact sc31 _ _ _ _) (fun _ _ y => by rw [y.blk.cell, ← a1]; exact sc20 _ _ _ _) (fun _ _ y => by rw [y.blk.cell]; exact sc30 _ _ _ _) (fun _ w' y => (zero_next s1.zs s1.now px w').mono fun e w'' ⟨h1, h2⟩ => ⟨by rw [h1, HZT.out], y.no h2⟩) (fun _ w' y => ?_) _ rfl rfl () (H9.out.no (Chg.refl No _).drew) fun _ w10 h10 => ?_
        · refine ⟨?_, ?_⟩
          · exact Blk.there y.blk 31 1 (by show 32 ≤ (sca a rv tv { sA with proxy := px }).size; rw [sc_size]; decide)
          have h6 := y.cell 31 (.int .i64 zt)
          have e6 : (cond false (sca a rv tv { sA with proxy := px, zs := zt }) (sca a rv tv { sA with proxy := px })).setIfInBounds 31 (.int .i64 zt) = sca a rv tv { sA with proxy := px, zs := zt } := sc_set31 a rv tv { sA with proxy := px } zt
          rw [e6] at h6
          exact h6
        have H10 : Hid (St a SS w0 (sca a rv tv { sA with proxy := px, zs := zt }) rv tv tn tx { sA with proxy := px, zs := zt } w10) := h10
        clear h10 H9
        simp only [lay_tik13, puts, List.setIfInBounds_toArray, List.set_cons_succ, List.set_cons_zero]
        go_wp2_with fail
        have hztb : -1 ≤ zt ∧ zt ≤ s1.now := by
          rw [← HZT.out]
          unfold P.nextState
          split
          · split <;> omega
          · omega
        obtain ⟨wt, hwt⟩ : ∃ wt, wantV a.v zt s1.now wn (M.count s1.pods) st s1.q.length (V.flying s1.rs).length = wt := ⟨_, rfl⟩
        have hw0 : 0 ≤ wt := by rw [← hwt]; exact want_nn _ _ _ _ _ _ _ _
        have HWT := Lib.hid hwt
        clear hwt
        refine tik14_at (by kernel_rfl) (cf a.v) a.p a.l a.q s1.now zt wn st (M.count s1.pods) s1.q.length (V.flying s1.rs).length wt (fun _ b w' => St a SS w0 (cond b (sca a rv tv { sA with proxy := px, zs := zt, want := wt }) (sca a rv tv { sA with proxy := px, zs := zt })) rv tv tn tx sA w') (fun _ _ y => y.row) (fun _ _ y => by rw [y.blk.cell]; exact sc31 _ _ _ _) (fun _ _ y => by rw [y.blk.cell, ← a1]; exact sc20 _ _ _ _) (fun _ _ y => by rw [y.blk.cell, ← a4]; exact sc26 _ _ _ _) (fun _ _ y => by rw [y.blk.cell, ← a5]; exact sc24 _ _ _ _) (fun _ w' y => (pods_any y (sc21 a rv tv _)).mono fun e w'' ⟨h1, h2⟩ => ⟨h1, y.no h2⟩) (fun _ w' y => ?_) (fun _ w' y => (waits_any y (sc21 a rv tv _)).mono fun e w'' ⟨h1, h2⟩ => ⟨h1, y.no h2⟩) (fun _ w' y => ?_) (fun _ w' y => ?_) (fun _ w' y => (zwant_w a.v HI.out.may zt s1.now wn (M.count s1.pods) st s1.q.length (V.flying s1.rs).length w' (by omega) (by omega) hztb.1 (by omega)).mono fun e w'' ⟨h1, h2⟩ => ⟨by rw [h1, HWT.out], y.no h2⟩) (fun _ w' y => ?_) _ rfl rfl ((none, 0), (none, 0)) (H10.out.no (Chg.refl No _).drew) fun _ w11 h11 => ?_
        · obtain ⟨C, hl, _⟩ := y.life
          rw [a6] at hl
          exact (A.count_any w' C a.l s1.pods _ hl (by omega)).mono fun e w'' ⟨h1, h2⟩ => ⟨h1, y.no h2⟩
        · obtain ⟨C, hl, _⟩ := y.queue
          rw [a7] at hl
          refine (B.all_any w' C a.q s1.q a.dp _ hl (by omega)).mono ?_
          rintro e w'' ⟨v, rfl, ho, hc⟩
          obtain ⟨va, ca', rfl⟩ := ho.sl
          exact ⟨(va, ca'), rfl, y.no hc⟩
        · obtain ⟨C, ho0⟩ := y.rq
          rw [a8] at ho0
          refine (flying_c a.p rv s1.rs w' C _ y.blk (sc22 a rv tv _) ho0 (by omega)).mono ?_
          rintro e w'' ⟨v, rfl, ho, hc⟩
          obtain ⟨va, ca', rfl⟩ := ho.sl
          exact ⟨(va, ca'), rfl, y.no hc⟩
        · refine ⟨_, by rw [y.blk.cell]; exact sc29 _ _ _ _, y.blk.free 29, ?_⟩
          have h6 := y.cell 29 (.int .i64 wt)
          have e6 : (cond false (sca a rv tv { sA with proxy := px, zs := zt, want := wt }) (sca a rv tv { sA with proxy := px, zs := zt })).setIfInBounds 29 (.int .i64 wt) = sca a rv tv { sA with proxy := px, zs := zt, want := wt } := sc_set29 a rv tv { sA with proxy := px, zs := zt } wt
          rw [e6] at h6
          exact h6
        obtain ⟨s2, hs2⟩ : ∃ s2 : V.Sys, s2 = { withD s1 y with ld := ⟨s1.now, st, qu, wn, pn, ex'⟩, proxy := px, zs := zt, want := wt } := ⟨_, rfl⟩
        have HT2 : Hid (a.E.ex → V.tick2 20000 10 s1 = s2) := fun hx => by rw [hs2]; exact tick2_eq HNX.out hx HRD.out HPX.out HZT.out HWT.out (HI.out.exv hx)
        have H11 : Hid (St a SS w0 (sca a rv tv s2) rv tv tn tx s2 w11) := by
          rw [hs2]
          have h12 : St a SS w0 (sca a rv tv { sA with proxy := px, zs := zt, want := wt }) rv tv tn tx { sA with proxy := px, zs := zt, want := wt } w11 := h11
          rw [HSA.out] at h12
          exact h12
        have b1 : s2.now = s1.now := by rw [hs2]; rfl
        have b2 : s2.want = wt := by rw [hs2]
        have b3 : s2.pods = s1.pods := by rw [hs2]; rfl
        have b5 : s2.made = s1.made := by rw [hs2]; rfl
        have HB2 : Hid (s2.rs = s1.rs ∧ s2.q = s1.q ∧ s2.ql = s1.ql ∧ s2.lost = s1.lost ∧ s2.zs = zt ∧ a.E.ok s2.now (dOf s2)) := by rw [hs2]; exact ⟨rfl, rfl, rfl, rfl, rfl, HNX.out.1⟩
        clear h11 H10 HSA a1 a2 a3 a4 a5 a6 a7 a8 HZT HWT HPX HNX hs2 HMI
        simp only [lay_tik14, puts, List.setIfInBounds_toArray, List.set_cons_succ, List.set_cons_zero]
        obtain ⟨nn, hnn, hnn1⟩ : ∃ nn : Nat, (if mostV a.v < wt then mostV a.v else wt) = nn ∧ nn ≤ 100 := by
          have hm : 0 ≤ mostV a.v ∧ mostV a.v ≤ 100 := by
            unfold mostV
            split <;> omega
          refine ⟨(if mostV a.v < wt then mostV a.v else wt).toNat, ?_, ?_⟩ <;> split <;> omega
        have HNN := Lib.hid hnn
        go_wp2_with fail
        refine tik15_at (by kernel_rfl) (cf a.v) a.p wt (mostV a.v) nn (fun _ w' => St a SS w0 (sca a rv tv s2) rv tv tn tx s2 w') HNN.out (fun _ _ y => by rw [y.blk.cell, ← b2]; exact sc29 _ _ _ _) (fun _ _ y => y.row) (fun _ w' y => (most_w a.v w').mono fun e w'' ⟨h1, h2⟩ => ⟨h1, y.no h2⟩) _ rfl rfl () (H11.out.no (Chg.refl No _).drew) fun _ w12 h12 => ?_
        have H12 := Lib.hid h12
        clear h12 H11 hnn
        simp only [lay_tik15, puts, List.setIfInBounds_toArray, List.set_cons_succ, List.set_cons_zero]
        go_wp2_with fail
        refine (pods_any H12.out (sc21 a rv tv _)).mono ?_
        rintro e w13 ⟨rfl, hc13⟩
        have H13 := Lib.hid (H12.out.no hc13)
        clear H12 hc13
        go_wp2_with fail
        obtain ⟨C, hl, _⟩ := H13.out.life
        rw [b3] at hl
        refine (A.count_any w13 C a.l s1.pods _ hl (by omega)).mono ?_
        rintro e w14 ⟨rfl, hc14⟩
        have H14 := Lib.hid (H13.out.no hc14)
        clear H13 hl hc14
        obtain ⟨s3, hs3⟩ : ∃ s3 : V.Sys, s3 = { s2 with pods := (M.scale nn s1.now s1.pods s1.made).1, made := (M.scale nn s1.now s1.pods s1.made).2 } := ⟨_, rfl⟩
        have HT3 : Hid (a.E.ex → V.tick3 (V.tick2 20000 10 s1) = s3) := fun hx => by
          rw [HT2.out hx, hs3]
          unfold V.tick3
          have e : (min s2.want 100).toNat = nn := by
            have h := HNN.out
            rw [HI.out.exv hx] at h
            have h' : (if (100 : Int) < wt then 100 else wt) = nn := h
            rw [b2]
            split at h' <;> omega
          rw [e, b1, b3, b5]
        have HS3 := Lib.hid hs3
        clear hs3 HNN HT2
        go_upto_if 165 with fail
        go_cut [] from 6 (fun wx => Hid (St a SS w0 (sca a rv tv s3) rv tv tn tx s3 wx))
        case first =>
          by_cases hct : nn = M.count s1.pods
          · have kk : ((nn : Int) != (M.count s1.pods : Int)) = false := by rw [hct]; simp
            go_wp2_with fail
            go_meet
            show St a SS w0 (sca a rv tv s3) rv tv tn tx s3 _
            rw [HS3.out, hct, scale_same, ← b3, ← b5]
            exact H14.out
          · have kk : ((nn : Int) != (M.count s1.pods : Int)) = true := by
              rw [bne_iff_ne]
              omega
            go_wp2_with fail
            refine tik17_at (by kernel_rfl) a.p a.l s1.now nn (fun _ b w' => St a SS w0 (sca a rv tv s2) rv tv tn tx (cond b s3 s2) w') (fun _ _ y => by rw [y.blk.cell, ← b1]; exact sc20 _ _ _ _) (fun _ w' y => (pods_any y (sc21 a rv tv _)).mono fun e w'' ⟨h1, h2⟩ => ⟨h1, y.no h2⟩) (fun _ w' y => ?_) _ rfl rfl rfl () (H14.out.no (Chg.refl No _).drew) fun _ w15 h15 => ?_
            · have y' : St a SS w0 (sca a rv tv s2) rv tv tn tx s2 w' := y
              obtain ⟨C, hl, back⟩ := y'.life
              rw [b3, b5] at hl
              refine (A.scale_any w' C a.l s1.pods s1.made hl HPK.out nn s1.now (by omega) (by omega) (by omega) (by omega) hmade0 (by omega)).mono fun e w'' ⟨h1, h2, h3⟩ => ⟨h1, ?_⟩
              show St a SS w0 _ rv tv tn tx s3 w''
              rw [HS3.out]
              exact back _ _ w'' h2 h3
            have H15 : Hid (St a SS w0 (sca a rv tv s3) rv tv tn tx s3 w15) := by
              have h16 : St a SS w0 (sca a rv tv s2) rv tv tn tx s3 w15 := h15
              rw [HS3.out] at h16 ⊢
              exact h16
            clear h15 H14
            simp only [lay_tik17, puts, List.setIfInBounds_toArray, List.set_cons_succ, List.set_cons_zero]
            go_wp2_with fail
            go_meet
            exact H15
        case rest =>
          have H15 := hcut
          have HP3 : Hid (V.Pl s3.now s3.made s3.q s3.pods s3.rs) := by
            rw [HS3.out]
            obtain ⟨e1, e2, -⟩ := HB2.out
            show V.Pl s2.now _ s2.q _ s2.rs
            rw [b1, e1, e2]
            exact HP1.out.scale nn hnn1 hmade
          have n3 : s3.now = s1.now := by rw [HS3.out]; exact b1
          have l3 : s3.rs.length = s1.rs.length := by rw [HS3.out]; exact congrArg List.length HB2.out.1
          have HI3 : Hid (s3.ql ≤ s3.now ∧ (0 ≤ s3.lost ∧ s3.lost ≤ 1000) ∧ (-1 ≤ s3.zs ∧ s3.zs ≤ s3.now) ∧ a.E.ok s3.now (dOf s3)) := by
            rw [n3]
            rw [HS3.out]
            obtain ⟨-, -, e3, e4, e5, e6⟩ := HB2.out
            exact ⟨by show s2.ql ≤ _; omega, by show 0 ≤ s2.lost ∧ s2.lost ≤ 1000; omega, by show -1 ≤ s2.zs ∧ s2.zs ≤ _; omega, by rw [← b1]; exact e6⟩
          clear hcut H14 HS3 HB2 HPK b1 b2 b3 b5
          go_wp2_with fail
          refine (sent_any (s := s3) H15.out HI.out.may HI.out.exv HP3.out (by omega) (by omega)).mono ?_
          rintro e w16 ⟨rfl, q4, ps4, rs4, p4, l4, x4, h16⟩
          obtain ⟨s4, hs4⟩ : ∃ s4 : V.Sys, s4 = { s3 with q := q4, pods := ps4, rs := rs4 } := ⟨_, rfl⟩
          have H16 : Hid (St a SS w0 (sca a rv tv s4) rv tv tn tx s4 w16) := by rw [hs4]; exact h16
          have HI4 : Hid (Inv a s4) := by
            rw [hs4]
            obtain ⟨e3, e4, e5, e6⟩ := HI3.out
            exact ⟨HI.out.may, HI.out.exv, HI.out.dv, HI.out.dp, p4, e3, e6, e4, e5⟩
          have n4 : s4.now = s.now + 1 := by rw [hs4]; show s3.now = _; omega
          have l5 : s4.rs.length = s.rs.length := by rw [hs4]; show rs4.length = _; omega
          have HT4 : Hid (a.E.ex → V.tick 20000 10 3 s = s4) := fun hx => by
            unfold V.tick
            rw [HEX1.out hx, HT3.out hx, hs4]
            exact sent_eq (x4 hx)
          clear H15 h16 HI3 HP3 p4 l4 x4 hs4 HT3 HEX1 HP1 HRD hnow hlen1 hmade hmade0 hql1 hlo1 hzs1 hztb n3 l3
          obtain ⟨C, ⟨_, hot⟩, _⟩ := H16.out.trace
          obtain ⟨vt, ct, htv⟩ := hot.sl
          subst htv
          clear hot
          obtain ⟨_, hpl4, _⟩ := pods_small (n := s4.rs.length) HI4.out.pl.ok.pods (by have := HI4.out.pl.ok.load; omega) (by omega) (by decide) (by omega)
          have hq4 := HI4.out.pl.ok.qlen
          go_wp2_with fail
          refine tik19_at (by kernel_rfl) a.p vt tn ct s4.now s4.want s4.ld.panic s4.proxy s4.pods.length s4.q.length (V.ends s4.rs 2) (V.ends s4.rs 0) (V.ends s4.rs 1) (V.ends s4.rs 2) (V.ends s4.rs 3) (V.ends s4.rs 4) (V.ends s4.rs 5) (V.ends s4.rs 6) (Xtr a SS w0 rv (.slice vt tn ct) tn tx s4 (fun x => (vcells s4.now s4.want s4.ld.panic s4.proxy x.1.1.1 s4.pods.length x.1.1.2 s4.q.length (V.ends s4.rs 2) (V.ends s4.rs) x.1.2).toList)) (fun _ _ _ _ y => by rw [y.1.blk.cell]; exact sc33 _ _ _ _) (fun x w' y => ?_) (fun x _ y => Xtr.make (fun _ _ => rfl) x y) (fun x _ y => Xtr.app (fun _ _ => rfl) ht x y) (fun x _ y => Xtr.store x y) _ rfl rfl (((none, 0), false), 0, (none, 0)) ⟨H16.out.no (Chg.refl No _).drew, (fun h => by cases h), rfl⟩ fun x w17 h17 => ?_
          · refine (see_any (s := s4) y.1 (by omega) (by omega) (by omega) HI4.out.pl.ok.rst).mono ?_
            rintro e w'' ⟨z, rfl, _, _, hc⟩
            exact ⟨z, rfl, y.1.no hc, (fun h => by cases h), rfl⟩
          have H17 : Hid (St a SS w0 (sca a rv (.slice x.2.2.1 (tn + 1) x.2.2.2) s4) rv (.slice x.2.2.1 (tn + 1) x.2.2.2) (tn + 1) (tx ++ (vcells s4.now s4.want s4.ld.panic s4.proxy x.1.1.1 s4.pods.length x.1.1.2 s4.q.length (V.ends s4.rs 2) (V.ends s4.rs) x.1.2).toList) s4 w17) := h17.1
          clear h17 H16
          simp only [lay_tik19, puts, List.setIfInBounds_toArray, List.set_cons_succ, List.set_cons_zero]
          generalize tx ++ (vcells s4.now s4.want s4.ld.panic s4.proxy x.1.1.1 s4.pods.length x.1.1.2 s4.q.length (V.ends s4.rs 2) (V.ends s4.rs) x.1.2).toList = tx2 at *
          obtain ⟨⟨⟨x1, x2⟩, x6⟩, x3, x4, x5⟩ := x
          have c33 : w17.cell? ⟨a.p, 33, none⟩ = some (.slice x4 (tn + 1) x5) := by rw [H17.out.blk.cell]; exact sc33 _ _ _ _
          have f33 := H17.out.blk.free 33
          by_cases htn : tn = 1000
          · subst htn
            obtain ⟨C, ⟨_, hot⟩, _⟩ := H17.out.trace
            obtain ⟨g9, o9, rfl, _, _, hcp, hcm⟩ := hot.some_ (by omega)
            clear hot
            go_wp2_with fail
            go_returns
            exact ⟨rfl, _, _, Nat.le_refl 1000, _, s4, HI4.out, n4, l5, HT4.out, reslice H17.out⟩
          · have k9 : decide (1000 < ((tn + 1 : Nat) : Int)) = false := decide_eq_false (by omega)
            go_wp2
            go_returns
            exact ⟨rfl, _, _, by omega, _, s4, HI4.out, n4, l5, HT4.out, H17.out⟩
end Go.Proofs.YtdgphoemjeakaaaGreatDoor.Y
