/- The whole service: the settings are others. The whole service: Do, any event that is no crash. -/
import Derived.Test.YtdgphoemjeakaaaGreatDoorR31
import Derived.Test.YtdgphoemjeakaaaGreatDoorR24
import Derived.Test.YtdgphoemjeakaaaGreatDoorR37
import Derived.Test.YtdgphoemjeakaaaGreatDoorR36
import Derived.Test.YtdgphoemjeakaaaGreatDoorR16
import Derived.Test.YtdgphoemjeakaaaGreatDoorR34
namespace Go.Proofs.YtdgphoemjeakaaaGreatDoor.Y
open Rg
open Go.RowKit K P U Mg Wk
set_option maxRecDepth 100000
section
variable {a : At} {S : Nat → Prop} {w0 w : World} {cs : Array Value} {rv tv : Value} {tn : Nat} {tx : List Value} {s : V.Sys}
theorem Y2.decV {S : Nat → Prop} (x : Y2 a cs rv tv tn tx s w S) (v' : Nat → Int) : ∃ C : Nat → Prop, DecR a s w C ∧ ∀ (y : Dd) (w' : World), a.E.rep v' a.d y w' (K.nx C w w') → Chg C w w' → Y2 { a with dv := v' } cs rv tv tn tx (withD s y) w' (K.nx S w w') ∧ Chg S w w' := by
  obtain ⟨A1, h1, _, c1⟩ := Two.right (One.good _ _ _) x
  obtain ⟨A2, h2, _, c2⟩ := Two.right (One.good _ _ _) h1
  obtain ⟨A3, h3, _, c3⟩ := Two.right LifeR.good h2
  obtain ⟨A4, h4, _, c4⟩ := Two.right QueueR.good h3
  obtain ⟨A5, h5, _, c5⟩ := Two.left g6 h4
  refine ⟨A5, h5, fun y w' h c => ?_⟩
  obtain ⟨e1, e2⟩ := c5 (a.E.rep v' a.d y) w' h c
  obtain ⟨e1, e2⟩ := c4 _ w' e1 e2
  obtain ⟨e1, e2⟩ := c3 _ w' e1 e2
  obtain ⟨e1, e2⟩ := c2 _ w' e1 e2
  exact c1 _ w' e1 e2
theorem Y2.queueP {S : Nat → Prop} (x : Y2 a cs rv tv tn tx s w S) (dp : Int) : ∃ C : Nat → Prop, B.Queue w C a.q s.q a.dp s.ql ∧ ∀ (w' : World), B.Queue w' (K.nx C w w') a.q s.q dp s.ql → Chg C w w' → Y2 { a with dp := dp } cs rv tv tn tx s w' (K.nx S w w') ∧ Chg S w w' := by
  obtain ⟨A1, h1, _, b1⟩ := Two.right (One.good _ _ _) x
  obtain ⟨A2, h2, _, b2⟩ := Two.right (One.good _ _ _) h1
  obtain ⟨A3, h3, _, b3⟩ := Two.right LifeR.good h2
  obtain ⟨A4, h4, _, b4⟩ := Two.left g5 h3
  refine ⟨A4, h4, fun w' h c => ?_⟩
  obtain ⟨e1, e2⟩ := b4 (QueueR a.q s.q dp s.ql) w' h c
  obtain ⟨e1, e2⟩ := b3 _ w' e1 e2
  obtain ⟨e1, e2⟩ := b2 _ w' e1 e2
  exact b1 _ w' e1 e2
theorem St.nextV {a a' : At} {cs cs' : Array Value} {rv' tv' : Value} {tn' : Nat} {tx' : List Value} {s' : V.Sys} {w' : World} (h : St a S w0 cs rv tv tn tx s w) (x : Y2 a' cs' rv' tv' tn' tx' s' w' (K.nx (K.nx S w0 w) w w')) (c : Chg (K.nx S w0 w) w w') : St a' S w0 cs' rv' tv' tn' tx' s' w' := ⟨Y2.wide.nn x h.2.size, h.2.next c⟩
theorem aset_v (v v' : Nat → Int) (g : Nat) (rv tv : Value) (s : V.Sys) : aset (sc v g rv tv s) 0 (cf v').toList = sc v' g rv tv s := by kernel_rfl
theorem St.rebaseV {a a' : At} {cs cs' : Array Value} {rv' tv' : Value} {tn' : Nat} {tx' : List Value} {s' : V.Sys} {wr wk w' : World} (h0 : St a S w0 cs rv tv tn tx s wr) (c : Chg No wr wk) (h : St a' (K.nx S w0 wr) wk cs' rv' tv' tn' tx' s' w') : St a' S w0 cs' rv' tv' tn' tx' s' w' := by
  have h1 := h0.2.size
  have h2 := c.size
  refine ⟨Y2.wide.mono h.1 (fun k hk => ?_) fun _ hk => hk.2, (h0.2.trans c.of_no).step h.2 fun k hk hT => hT.1.resolve_right (by omega)⟩
  obtain ⟨h3 | h3, h4⟩ := hk
  · exact ⟨h3.1, h4⟩
  · exact ⟨.inr (by omega), h4⟩
theorem St.setV (h : St a S w0 (sca a rv tv s) rv tv tn tx s w) (v' : Nat → Int) : w.there a.p 0 20 ∧ St { a with v := v' } S w0 (sca { a with v := v' } rv tv s) rv tv tn tx s (w.setCells a.p 0 (cf v').toList) := by
  have hb := h.blk
  refine ⟨Blk.there hb 0 20 (by show 20 ≤ (sca a rv tv s).size; rw [sc_size]; decide), ?_⟩
  obtain ⟨A, h1, back⟩ := h.1.cells
  have hc : Chg A w (w.setCells a.p 0 (cf v').toList) := Chg.cells (fun _ => h1.2.1) _ _ (Chg.refl A w)
  have hb2 := Blk.cells (cf v').toList 0 hb
  rw [aset_v] at hb2
  obtain ⟨g1, g2⟩ := back (sca { a with v := v' } rv tv s) _ ⟨fun k hk => hk.2, ⟨.inl h1.2.1, hb2.lt⟩, hb2⟩ hc
  exact h.nextV (a' := { a with v := v' }) g1 g2
end
theorem sto24m (w : World) (B : Nat) (v : Nat → Int) (ht : w.there B 0 20) : sto 24 (.pointer (some ⟨B, 0, none⟩)) (.agg (cf v)) w = .ok .skip (w.setCells B 0 (cf v).toList) := by
  simp only [sto, Sem.run_bind, run_storeAt_mid (P := Tryz.prog) w B 0 24 (cf v) (by rw [cf_size]; exact ht) (by kernel_rfl) (cf_one v)]
  rfl
attribute [local go_sem ↓] exec_sto24
attribute [local go_sem] sto24
set_option maxHeartbeats 8000000 in
theorem change_any {a : At} (hE : a.E = loose) {S : Nat → Prop} {w0 : World} {rv tv : Value} {tn : Nat} {tx : List Value} {s : V.Sys} {w : World} (h : St a S w0 (sca a rv tv s) rv tv tn tx s w) (inv : Inv a s) (n1 : s.now ≤ 1000000) (hr : s.rs.length ≤ 1000000) (t : ByteArray) (ht : t.size ≤ 1000000) (m : Int) (hm : w.cell? ⟨0, 0, none⟩ = some (.int .i64 m)) :
    Calls Tryz.prog 30 #[.pointer (some ⟨a.p, 0, none⟩), .string t] w fun e w' => ∃ (c : Int) (a' : At) (s' : V.Sys), e = .returned (.int .i64 c) ∧ a'.E = loose ∧ a'.p = a.p ∧ Inv a' s' ∧ s'.now = s.now ∧ s'.rs.length = s.rs.length ∧ St a' S w0 (sca a' rv tv s') rv tv tn tx s' w' := by
  have HP := Lib.hid (Tx.parse_any a.v t w ht m hm)
  have hrow := h.row
  have H := Lib.hid h
  have HI := Lib.hid inv
  clear h inv hm
  go_enter Tryz.func30, Tryz.ntmps30
  go_wp2_with fail
  refine HP.out.mono ?_
  rintro e w1 ⟨v', code, line, rfl, hcode, hc⟩
  have HC := Lib.hid hcode
  have HCH := Lib.hid (hc.alloc (.cells (cf v') 24))
  have hB := Lib.hid (Blk.new w1 (cf v') 24)
  have HDIS : Hid (¬ K.nx S w0 w w1.heap.size) := fun h => by have := nx_bd h; have := hc.size; omega
  clear hc hcode hrow HP
  obtain ⟨-, -, -, -, ⟨g0, -⟩, -⟩ := may_bd HI.out.may
  have hz := HI.out.pl.now0
  by_cases h0 : code = 0
  · have k0 : (code != 0) = false := by simp [h0]
    have HV := Lib.hid (HC.out h0)
    obtain ⟨-, -, -, -, -, -, -, -, -, -, -, ⟨d0, d1⟩, -⟩ := may_bd HV.out
    clear HC h0
    go_wp2_with fail
    obtain ⟨hth, h2⟩ := (H.out.base HCH.out).setV v'
    rw [sto24m _ _ _ hth]
    generalize w1.alloc (.cells (cf v') 24) = wk at *
    generalize w1.heap.size = bb at *
    have HB2 := Lib.hid (hB.out.chg h2.2 HDIS.out)
    have H2 := Lib.hid h2
    clear hth h2
    generalize wk.setCells a.p 0 (cf v').toList = w2 at *
    go_wp2_with fail
    refine chg5_at (by kernel_rfl) (cf v') a.p bb a.d (fun _ b w' => match b with
      | false => St { a with v := v' } (K.nx S w0 w) wk (sca { a with v := v' } rv tv s) rv tv tn tx s w'
      | true => St { a with v := v', dv := v' } (K.nx S w0 w) wk (sca { a with v := v' } rv tv s) rv tv tn tx s w') (fun _ w' y => by
        have hr := rowOf_blk (hB.out.chg y.2 HDIS.out)
        rw [cf_size] at hr
        exact hr) (fun _ w' y => (decides_any y (sc21 _ rv tv s)).mono fun e w'' ⟨h1, h2⟩ => ⟨h1, y.no h2⟩) (fun _ w' y => ?_) _ rfl rfl rfl 0 (H2.out.no (Chg.refl No _).drew) fun _ w3 h3 => ?_
    · have y' : St { a with v := v' } (K.nx S w0 w) wk (sca { a with v := v' } rv tv s) rv tv tn tx s w' := y
      obtain ⟨C, hd, back⟩ := Y2.decV y'.1 v'
      have hok := HI.out.dec
      have hd' : Wj.Dec a.v a.d s.nw.toNat s.dl w' C := by
        rw [← HI.out.dv]
        have h4 : a.E.rep a.dv a.d (dOf s) w' C := hd
        rw [hE] at h4
        exact h4
      rw [hE] at hok
      have hk : s.nw.toNat + 1 ≤ 1099511627776 := by
        have h5 : 0 ≤ s.nw ∧ s.nw ≤ 2 * s.now := hok.1
        omega
      refine (Wj.change_any a.v v' a.d s.nw.toNat s.dl w' C hd' HV.out g0 hk).mono fun e w'' ⟨c, h1, h2, h3⟩ => ⟨c, h1, ?_⟩
      obtain ⟨g1, g2⟩ := back (dOf s) w'' (by show a.E.rep v' a.d (dOf s) w'' _; rw [hE]; exact h2) h3
      exact y'.nextV (a' := { a with v := v', dv := v' }) g1 g2
    have H3 : Hid (St { a with v := v', dv := v' } (K.nx S w0 w) wk (sca { a with v := v' } rv tv s) rv tv tn tx s w3) := h3
    clear h3 H2 HB2
    simp only [lay_chg5, puts, List.setIfInBounds_toArray, List.set_cons_succ, List.set_cons_zero]
    go_wp2_with fail
    refine chg6_at (by kernel_rfl) a.p bb a.q (v' 15) (fun _ b w' => match b with
      | false => St { a with v := v', dv := v' } (K.nx S w0 w) wk (sca { a with v := v' } rv tv s) rv tv tn tx s w'
      | true => St { a with v := v', dv := v', dp := v' 15 } (K.nx S w0 w) wk (sca { a with v := v' } rv tv s) rv tv tn tx s w') (fun _ w' y => cell_cf (hB.out.chg y.2 HDIS.out) 15) (fun _ w' y => (waits_any y (sc21 { a with v := v' } rv tv s)).mono fun e w'' ⟨h1, h2⟩ => ⟨h1, y.no h2⟩) (fun _ w' y => ?_) _ rfl rfl rfl 0 (H3.out.no (Chg.refl No _).drew) fun _ w4 h4 => ?_
    · have y' : St { a with v := v', dv := v' } (K.nx S w0 w) wk (sca { a with v := v' } rv tv s) rv tv tn tx s w' := y
      obtain ⟨C, hq, back⟩ := Y2.queueP y'.1 (v' 15)
      refine (B.depth_any w' C a.q s.q a.dp s.ql (v' 15) hq d0 d1).mono fun e w'' ⟨c, h1, h2, h3⟩ => ⟨c, h1, ?_⟩
      obtain ⟨g1, g2⟩ := back w'' (QueueR.wide.nx' QueueR.good h2) h3
      exact y'.nextV (a' := { a with v := v', dv := v', dp := v' 15 }) g1 g2
    obtain ⟨b, hb⟩ : ∃ b : At, b = { a with v := v', dv := v', dp := v' 15 } := ⟨_, rfl⟩
    have H4 : Hid (St b S w0 (sca b rv tv s) rv tv tn tx s w4) := by
      have h5 : St { a with v := v', dv := v', dp := v' 15 } (K.nx S w0 w) wk (sca { a with v := v' } rv tv s) rv tv tn tx s w4 := h4
      rw [hb]
      exact H.out.rebaseV HCH.out h5
    have bp : a.p = b.p := by rw [hb]
    have HBP := Lib.hid (Eq.symm bp)
    have HBI : Hid (b.E = loose ∧ Inv b s) := by
      rw [hb]
      exact ⟨hE, HV.out, (fun h => by rw [show ({ a with v := v', dv := v', dp := v' 15 } : At).E = a.E from rfl, hE] at h; exact h.elim), rfl, rfl, HI.out.pl, HI.out.ql, HI.out.dec, HI.out.lost, HI.out.zs⟩
    clear h4 H3 hb H hB HDIS HCH
    rw [bp]
    clear bp
    simp only [lay_chg6, puts, List.setIfInBounds_toArray, List.set_cons_succ, List.set_cons_zero]
    go_wp2_with fail
    refine (sent_any H4.out HBI.out.2.may HBI.out.2.exv HBI.out.2.pl n1 hr).mono ?_
    rintro e w5 ⟨rfl, q5, ps5, rs5, p5, l5, -, h5⟩
    have H5 : Hid (∃ (c : Int) (a' : At) (s' : V.Sys), (0 : Int) = c ∧ a'.E = loose ∧ a'.p = a.p ∧ Inv a' s' ∧ s'.now = s.now ∧ s'.rs.length = s.rs.length ∧ St a' S w0 (sca a' rv tv s') rv tv tn tx s' w5) := ⟨0, b, _, rfl, HBI.out.1, HBP.out, HBI.out.2.turn p5, rfl, l5, h5⟩
    clear p5 l5 h5 H4
    go_wp2_with fail
    go_ret
    obtain ⟨c, a', s', rfl, h7⟩ := H5.out
    exact ⟨0, a', s', rfl, h7⟩
  · have k0 : (code != 0) = true := by simp [h0]
    have H1 := Lib.hid (H.out.no HCH.out)
    go_wp2_with fail
    go_ret
    exact ⟨code, a, s, rfl, hE, rfl, HI.out, rfl, rfl, H1.out⟩
end Go.Proofs.YtdgphoemjeakaaaGreatDoor.Y
namespace Go.Proofs.YtdgphoemjeakaaaGreatDoor.E
open Go.RowKit K
set_option maxHeartbeats 2000000 in
theorem may_conf (n : Int) (t : ByteArray) (w : World) : Calls Tryz.prog 26 #[.agg #[.int .i64 5, .int .i64 n, .string t]] w fun e w' => ∃ b : Bool, e = .returned (.bool b) ∧ (b = true → t.size ≤ 200) ∧ Chg No w w' := by
  go_enter Tryz.func26, Tryz.ntmps26
  go_wp2_with fail
  refine (of_any _ _ _ _).mono ?_
  rintro e w1 ⟨rfl, hc⟩
  have hB := (Blk.new w #[.int .i64 5, .int .i64 n, .string t] 32).kept hc
  have HC := Lib.hid (((Chg.refl No w).alloc (.cells #[.int .i64 5, .int .i64 n, .string t] 32)).trans hc)
  have c0 : w1.cell? ⟨w.heap.size, 0, none⟩ = some (.int .i64 5) := hB.cell 0
  have c1 : w1.cell? ⟨w.heap.size, 1, none⟩ = some (.int .i64 n) := hB.cell 1
  have c2 : w1.cell? ⟨w.heap.size, 2, none⟩ = some (.string t) := hB.cell 2
  clear hc hB
  by_cases hn : n = 0
  · have k1 : (n == 0) = true := by simp [hn]
    by_cases ht : t.size ≤ 200
    · have k2 : decide ((t.size : Int) ≤ 200) = true := decide_eq_true (by omega)
      clear hn
      go_wp2
      go_ret
      exact ⟨true, rfl, (fun _ => ht), HC.out⟩
    · have k2 : decide ((t.size : Int) ≤ 200) = false := decide_eq_false (by omega)
      clear hn ht
      go_wp2
      go_ret
      exact ⟨false, rfl, (fun h => by cases h), HC.out⟩
  · have k1 : (n == 0) = false := by simp [hn]
    clear hn
    go_wp2
    go_ret
    exact ⟨false, rfl, (fun h => by cases h), HC.out⟩
end Go.Proofs.YtdgphoemjeakaaaGreatDoor.E
namespace Go.Proofs.YtdgphoemjeakaaaGreatDoor.Y
open Rg
open Go.RowKit K P U Mg Wk
set_option maxRecDepth 100000
def Led (a : At) (SS : Nat → Prop) (w0 : World) (s : V.Sys) (w : World) : Prop := ∃ (a' : At) (s' : V.Sys), a'.E = loose ∧ a'.p = a.p ∧ Inv a' s' ∧ s'.now ≤ s.now + 200 ∧ s'.rs.length ≤ s.rs.length + 100 ∧ Aft a' SS w0 s' w
set_option maxHeartbeats 8000000 in
theorem do_conf {a : At} (hE : a.E = loose) {SS : Nat → Prop} {w0 w : World} {s : V.Sys} (h : Aft a SS w0 s w) (inv : Inv a s) (n : Int) (t : ByteArray) (n1 : s.now ≤ 1000000) (hr : s.rs.length ≤ 1000000) (m : Int) (hm : w.cell? ⟨0, 0, none⟩ = some (.int .i64 m)) :
    Calls Tryz.prog 12 #[.pointer (some ⟨a.p, 0, none⟩), evt 5 n t] w fun e w' => ∃ c : Int, e = .returned (.int .i64 c) ∧ Led a SS w0 s w' := by
  have H := Lib.hid h
  have HI := Lib.hid inv
  have hlt : 0 < w.heap.size := by
    cases hh : w.heap[0]? with
    | none => simp [World.cell?, hh] at hm
    | some x => exact (Array.getElem?_eq_some_iff.1 hh).1
  have HM := Lib.hid hm
  clear h inv hm
  unfold evt
  go_enter Tryz.func12, Tryz.ntmps12
  go_wp2_with fail
  refine (E.may_conf n t _).mono ?_
  rintro e w1 ⟨b, rfl, hb, hc⟩
  have hB := (Blk.new w #[.int .i64 5, .int .i64 n, .string t] 32).kept hc
  have c0 : w1.cell? ⟨w.heap.size, 0, none⟩ = some (.int .i64 5) := hB.cell 0
  have c2 : w1.cell? ⟨w.heap.size, 2, none⟩ = some (.string t) := hB.cell 2
  have hch : Chg No w w1 := ((Chg.refl No w).alloc (.cells #[.int .i64 5, .int .i64 n, .string t] 32)).trans hc
  have hm1 : w1.cell? ⟨0, 0, none⟩ = some (.int .i64 m) := by
    rw [← HM.out]
    exact World.cell?_of_block (a := ⟨0, 0, none⟩) (hch.block 0 hlt (fun h => h))
  have HM1 := Lib.hid hm1
  have H1 := Lib.hid (H.out.no hch)
  clear hc H hB hch hm1
  cases b with
  | false =>
    go_wp2
    go_ret
    exact ⟨1, rfl, a, s, hE, rfl, HI.out, by omega, by omega, H1.out⟩
  | true =>
    have htl := hb rfl
    clear hb
    obtain ⟨rv, tv, tn, htn, tx, hs⟩ := H1.out
    have HS := Lib.hid hs
    clear hs H1
    go_wp2_with fail
    refine (change_any hE HS.out HI.out n1 hr t (by omega) m HM1.out).mono ?_
    rintro e w2 ⟨c, a', s', rfl, h2, h3, h4, h5, h6, h7⟩
    have H2 : Hid (Led a SS w0 s w2) := ⟨a', s', h2, h3, h4, by omega, by omega, rv, tv, tn, htn, tx, h7⟩
    clear h2 h3 h4 h5 h6 h7
    go_wp2
    go_ret
    exact ⟨_, rfl, H2.out⟩
theorem do_all {a : At} (hE : a.E = loose) {SS : Nat → Prop} {w0 w : World} {s : V.Sys} (h : Aft a SS w0 s w) (inv : Inv a s) (k n : Int) (t : ByteArray) (h4 : k ≠ 4) (n1 : s.now + 200 ≤ 1000000) (hr : s.rs.length + 100 ≤ 1000000) (m : Int) (hm : w.cell? ⟨0, 0, none⟩ = some (.int .i64 m)) :
    Calls Tryz.prog 12 #[.pointer (some ⟨a.p, 0, none⟩), evt k n t] w fun e w' => ∃ c : Int, e = .returned (.int .i64 c) ∧ Led a SS w0 s w' := by
  by_cases h5 : k = 5
  · subst h5
    exact do_conf hE h inv n t (by omega) (by omega) m hm
  by_cases hmay : E.may k n (!t.toList.isEmpty) = false
  · exact (do_bad h k n t h5 hmay).mono fun e w' ⟨he, hA⟩ => ⟨_, he, a, s, hE, rfl, inv, by omega, by omega, hA⟩
  · have h2 : E.may k n (!t.toList.isEmpty) = true := by simpa using hmay
    unfold E.may at h2
    have ht : (!t.toList.isEmpty) = false := by
      cases hx : (!t.toList.isEmpty) with
      | false => rfl
      | true =>
        rw [hx] at h2
        simp [h5] at h2
    rw [ht] at h2
    by_cases k1 : k = 1
    · subst k1
      simp at h2
      obtain ⟨m, rfl⟩ : ∃ m : Nat, n = m := ⟨n.toNat, by omega⟩
      exact (do_tick h inv m t ⟨by omega, by omega⟩ ht (by omega) (by omega)).mono fun e w' ⟨he, s', hA, hI, hn, hl, _⟩ => ⟨_, he, a, s', hE, rfl, hI, by omega, by omega, hA⟩
    · by_cases k2 : k = 2
      · subst k2
        simp at h2
        obtain ⟨m, rfl⟩ : ∃ m : Nat, n = m := ⟨n.toNat, by omega⟩
        exact (do_arrive h inv m t ⟨by omega, by omega⟩ ht (by omega) (by omega)).mono fun e w' ⟨he, s', hA, hI, hn, hl, _⟩ => ⟨_, he, a, s', hE, rfl, hI, by omega, by omega, hA⟩
      · by_cases k3 : k = 3
        · subst k3
          simp at h2
          obtain ⟨m, rfl⟩ : ∃ m : Nat, n = m := ⟨n.toNat, by omega⟩
          exact (do_finish h inv m t (by omega) ht (by omega) (by omega)).mono fun e w' ⟨c, s', he, hA, hI, hn, hl, _⟩ => ⟨_, he, a, s', hE, rfl, hI, by omega, by omega, hA⟩
        · by_cases k6 : k = 6
          · subst k6
            simp at h2
            exact (do_lose h inv n t h2 ht).mono fun e w' ⟨he, hA, hI⟩ => ⟨_, he, a, _, hE, rfl, hI, by show s.now ≤ _; omega, by show s.rs.length ≤ _; omega, hA⟩
          · exfalso
            simp [k1, k2, k3, h4, k6] at h2
end Go.Proofs.YtdgphoemjeakaaaGreatDoor.Y
