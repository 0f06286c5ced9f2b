/- The whole service: tick. -/
import Derived.Test.YtdgphoemjeakaaaGreatDoorQ19
/-! The whole service: tick. -/
namespace Go.Proofs.YtdgphoemjeakaaaGreatDoor.Y
open Go.Proofs.YtdgphoemjeakaaaGreatDoor.Rg
open Go.Proofs.YtdgphoemjeakaaaGreatDoor.Me
open Go.RowKit Go.Proofs.YtdgphoemjeakaaaGreatDoor Go.Proofs.YtdgphoemjeakaaaGreatDoor.K Go.Proofs.YtdgphoemjeakaaaGreatDoor.P Go.Proofs.YtdgphoemjeakaaaGreatDoor.U Go.Proofs.YtdgphoemjeakaaaGreatDoor.R
set_option maxRecDepth 100000

/-- Those that are late, the first n of them. -/
def lateTo (now : Int) (l : List (Int × Int)) (rs : List V.Req) (n : Nat) : List V.Req := (l.take n).foldl (fun rs x => V.stand now 4 rs x.1) rs
theorem lateTo_next {now : Int} {l : List (Int × Int)} {rs : List V.Req} {n : Nat} {x : Int × Int} (h : l[n]? = some x) : lateTo now l rs (n + 1) = V.stand now 4 (lateTo now l rs n) x.1 := by
  unfold lateTo
  rw [List.take_add_one, h, List.foldl_append]
  rfl
theorem lateTo_len (now : Int) (l : List (Int × Int)) (rs : List V.Req) (n : Nat) : (lateTo now l rs n).length = rs.length := V.late_len ..
theorem lateTo_all (now : Int) (l : List (Int × Int)) (rs : List V.Req) : lateTo now l rs l.length = l.foldl (fun rs x => V.stand now 4 rs x.1) rs := by
  unfold lateTo
  rw [List.take_length]

/-- What is not known ahead: where the pods lie, where the new one lies, where all lie. -/
abbrev XT := (Option Addr × Nat) × Nat × (Option Addr × Nat)
/-- The states of the region that keeps what was seen. -/
def Xtr (a : At) (SS : Nat → Prop) (w0 : World) (rv tv : Value) (tn : Nat) (tx : List Value) (s : V.Sys) (news : XT → List Value) (x : XT) (b0 b1 b2 b3 : Bool) (w : World) : Prop :=
  St a SS w0 (sca a rv (cond b3 (.slice x.2.2.1 (tn + 1) x.2.2.2) tv) s) rv (cond b2 (.slice x.2.2.1 (tn + 1) x.2.2.2) tv) (cond b2 (tn + 1) tn) (cond b2 (tx ++ news x) tx) s w ∧ (b1 = true → b2 = false → Blk w x.2.1 (news x).toArray 38) ∧ (b0 = b0)
section
variable {a : At} {SS : Nat → Prop} {w0 : World} {rv tv : Value} {tn : Nat} {tx : List Value} {s : V.Sys} {news : XT → List Value} {w : World}
theorem Xtr.make (hn : ∀ (x : XT) (y : Nat × (Option Addr × Nat)), news (x.1, y) = news x) (x : XT) (h : Xtr a SS w0 rv tv tn tx s news x true false false false w) : Xtr a SS w0 rv tv tn tx s news (x.1, w.heap.size, x.2.2) true true false false (w.alloc (.cells (news x).toArray 38)) :=
  ⟨h.1.no ((Chg.refl No w).alloc _), fun _ _ => (by
    have h1 := hn x (w.heap.size, x.2.2)
    show Blk _ w.heap.size (news (x.1, (w.heap.size, x.2.2))).toArray 38
    rw [h1]
    exact Blk.new w _ _), rfl⟩
theorem Xtr.app (hn : ∀ (x : XT) (y : Nat × (Option Addr × Nat)), news (x.1, y) = news x) (ht : tn ≤ 1000) {va : Option Addr} {c : Nat} (x : XT) (h : Xtr a SS w0 rv (.slice va tn c) tn tx s news x true true false false w) : ∃ (C : Nat → Prop) (xs : List Value), Own w C 38 15 (.slice va tn c) tn xs ∧ (∀ j u, (news x)[j]? = some u → w.cell? ((⟨x.2.1, 0, none⟩ : Addr).add j) = some u) ∧ tn + 1 ≤ maxLen ∧ (tn + 1) * 128 ≤ 140737488355328 ∧ ∀ g' o' c' w', Own w' (nx C w w') 38 15 (.slice (some ⟨g', o', none⟩) (tn + 1) c') (tn + 1) (xs ++ news x) → Chg C w w' → Xtr a SS w0 rv (.slice va tn c) tn tx s news (x.1, x.2.1, (some ⟨g', o', none⟩, c')) true true true false w' := by
  obtain ⟨h1, h2, _⟩ := h
  have hb := h2 rfl rfl
  obtain ⟨C, ⟨hbd, ho⟩, back⟩ := h1.trace
  refine ⟨C, _, ho, fun j u hu => ?_, by simp only [maxLen]; omega, by omega, fun g' o' c' w' ho' hc' => ⟨?_, (fun _ h => by cases h), rfl⟩⟩
  · rw [Addr.add_lit, Nat.zero_add, hb.cell, ← Array.getElem?_toList]
    exact hu
  · have h3 := back (.slice (some ⟨g', o', none⟩) (tn + 1) c') (tn + 1) (tx ++ news x) w' ⟨fun k hk => hk.2, ho'⟩ hc'
    rw [← hn x (x.2.1, (some ⟨g', o', none⟩, c'))] at h3
    exact h3
theorem Xtr.store {va : Option Addr} {c : Nat} (x : XT) (h : Xtr a SS w0 rv (.slice va tn c) tn tx s news x true true true false w) : ∃ u0, w.cell? ⟨a.p, 33, none⟩ = some u0 ∧ w.frozen? ⟨a.p, 33, none⟩ = false ∧ Xtr a SS w0 rv (.slice va tn c) tn tx s news x true true true true (w.setCell ⟨a.p, 33, none⟩ (.slice x.2.2.1 (tn + 1) x.2.2.2)) := by
  have h1 := h.1
  refine ⟨_, by rw [h1.blk.cell]; exact sc33 _ _ _ _, h1.blk.free 33, ?_, (fun _ h => by cases h), rfl⟩
  have h2 := h1.cell 33 (.slice x.2.2.1 (tn + 1) x.2.2.2)
  rw [show (sca a rv (cond false (.slice x.2.2.1 (tn + 1) x.2.2.2) (.slice va tn c)) s).setIfInBounds 33 (.slice x.2.2.1 (tn + 1) x.2.2.2) = sca a rv (.slice x.2.2.1 (tn + 1) x.2.2.2) s from sc_set33 _ _ _ _ _] at h2
  exact h2
end
theorem reslice {a : At} {SS : Nat → Prop} {w0 : World} {rv : Value} {tx : List Value} {s : V.Sys} {w : World} {g o c : Nat} (h : St a SS w0 (sca a rv (.slice (some ⟨g, o, none⟩) 1001 c) s) rv (.slice (some ⟨g, o, none⟩) 1001 c) 1001 tx s w) : St a SS w0 (sca a rv (.slice (some ⟨g, o + 15, none⟩) 1000 (c - 1)) s) rv (.slice (some ⟨g, o + 15, none⟩) 1000 (c - 1)) 1000 (tx.drop 15) s (w.setCell ⟨a.p, 33, none⟩ (.slice (some ⟨g, o + 15, none⟩) 1000 (c - 1))) := by
  obtain ⟨C, ⟨hb, ho⟩, back⟩ := h.trace
  have h1 := ho.drop 1 (by omega)
  have h2 := back _ _ _ w ⟨fun k hk => hk.2, h1.mono fun k hk hC => ⟨.inl hC, hk⟩⟩ (Chg.refl C w)
  have h3 := h2.cell 33 (.slice (some ⟨g, o + 15, none⟩) 1000 (c - 1))
  rw [sc_set33] at h3
  exact h3
theorem scale_same (now : Int) (ps : List M.Pod) (made : Int) : M.scale (M.count ps) now ps made = (ps, made) := by
  unfold M.scale
  rw [Nat.sub_self]
  simp only [M.more]
  rw [Nat.sub_self]
  rfl
section
variable {a : At} {SS : Nat → Prop} {w0 w w' : World} {rv tv : Value} {tn : Nat} {tx : List Value} {s2 : V.Sys} {wt : Int}
theorem keepT (hw : s2.want = wt) (h : St a SS w0 (sca a rv tv s2) rv tv tn tx s2 w) : Hid (St a SS w0 (sca a rv tv s2) rv tv tn tx s2 w) ∧ rowOf w a.p 0 20 = some (.agg (ca a.bu a.ini a.li a.rd)) ∧ w.cell? ⟨a.p, 29, none⟩ = some (.int .i64 wt) :=
  ⟨h, h.row, by rw [h.blk.cell, sc29, hw]⟩
theorem keepT2 (hw : s2.want = wt) (h : Hid (St a SS w0 (sca a rv tv s2) rv tv tn tx s2 w) ∧ rowOf w a.p 0 20 = some (.agg (ca a.bu a.ini a.li a.rd)) ∧ w.cell? ⟨a.p, 29, none⟩ = some (.int .i64 wt)) (c : Chg No w w') : Hid (St a SS w0 (sca a rv tv s2) rv tv tn tx s2 w') ∧ rowOf w' a.p 0 20 = some (.agg (ca a.bu a.ini a.li a.rd)) ∧ w'.cell? ⟨a.p, 29, none⟩ = some (.int .i64 wt) := keepT hw (h.1.out.no c)
end
set_option maxHeartbeats 8000000 in
theorem tick_any (hm : Said.may) {a : At} (ok : P.Ok a.bu a.ini a.li a.rd) {SS : Nat → Prop} {w0 : World} {rv tv : Value} {tn : Nat} {tx : List Value} {s : V.Sys} {w : World} (h : St a SS w0 (sca a rv tv s) rv tv tn tx s w) (ht : tn ≤ 1000) (inv : V.Inv a.li s) (n1 : s.now + 1 ≤ 1000000) (hr : s.rs.length ≤ 1000000) :
    Calls Tryz.prog 31 #[.pointer (some ⟨a.p, 0, none⟩)] w fun e w' => e = .returned (.tuple #[]) ∧ ∃ tv' tn', tn' ≤ 1000 ∧ ∃ tx', St a SS w0 (sca a rv tv' (V.tick a.bu a.li a.rd s)) rv tv' tn' tx' (V.tick a.bu a.li a.rd s) w' := by
  have hz := inv.now0
  have HM := Lib.hid hm
  have HK := Lib.hid ok
  have HI := Lib.hid inv
  have HMID := Lib.hid (inv_mid (rd := a.rd) inv ok.li.2)
  have hli := ok.li
  have hrd := ok.rd
  have H := Lib.hid h
  have c20 : w.cell? ⟨a.p, 20, none⟩ = some (.int .i64 s.now) := by rw [h.blk.cell, sc20]
  have f20 := h.blk.free 20
  clear h inv hm ok
  go_enter Tryz.func31, Tryz.ntmps31
  go_wp2_with fail
  have H1 : Hid (St a SS w0 (sca a rv tv { s with now := s.now + 1 }) rv tv tn tx { s with now := s.now + 1 } (w.setCell ⟨a.p, 20, none⟩ (.int .i64 (s.now + 1)))) := by
    have h1 := H.out.cell 20 (.int .i64 (s.now + 1))
    rw [sc_set20] at h1
    exact h1
  clear H c20 f20
  generalize w.setCell ⟨a.p, 20, none⟩ (.int .i64 (s.now + 1)) = w1 at *
  obtain ⟨lt, hlt⟩ : ∃ lt, s.q.takeWhile (B.late (s.now + 1) 60) = lt := ⟨_, rfl⟩
  obtain ⟨qd, hqd⟩ : ∃ qd, s.q.dropWhile (B.late (s.now + 1) 60) = qd := ⟨_, rfl⟩
  have HLT := Lib.hid hlt
  have HQD := Lib.hid hqd
  have hltl : lt.length ≤ 100 := by
    have := (List.takeWhile_sublist (p := B.late (s.now + 1) 60) (l := s.q)).length_le
    have := HI.out.qlen
    rw [hlt] at *
    omega
  have HLM : Hid (∀ x, x ∈ lt → 0 ≤ x.1 ∧ x.1 < s.rs.length) := fun x hx => by
    rw [← hlt] at hx
    exact (HI.out.qat x ((List.takeWhile_sublist _).subset hx)).1
  have HB1 := Lib.hid (H1.out.1)
  clear hlt hqd
  refine tik1_at (by kernel_rfl) a.p a.q (s.now + 1) lt.length (fun x b w' => Chg (K.nx SS w0 w1) w1 w' ∧ Y2 a (sca a rv tv { s with now := s.now + 1 }) rv tv tn tx (cond b { s with now := s.now + 1, q := qd } { s with now := s.now + 1 }) w' (K.nx SS w0 w1) ∧ (b = true → Own w' (fun k => w1.heap.size ≤ k) 3 1 (.slice x.1 lt.length x.2) lt.length (lt.map fun x => .int .i64 x.1)))
    (fun _ w' y => by rw [(St.start y.2.1).blk.cell]; exact sc20 _ _ _ _) (fun _ w' y => by rw [(St.start y.2.1).blk.cell]; exact sc16 _ _ _ _) (fun _ w' y => (waits_any (St.start y.2.1) (sc21 a rv tv _)).mono fun e w'' ⟨h1, h2⟩ => ⟨h1, y.1.trans h2.of_no, Y2.good.kept y.2.1 h2, fun hb => by cases hb⟩) (fun x w' y => ?_) _ rfl rfl (none, 0) ⟨(Chg.refl _ w1).drew, Y2.good.kept HB1.out (Chg.refl No w1).drew, fun hb => by cases hb⟩ fun x w2 h2 => ?_
  · obtain ⟨y1, y2, _⟩ := y
    obtain ⟨C, hq, back⟩ := Y2.queue_same y2
    refine (B.late_any w' C a.q s.q 100 s.ql (s.now + 1) 60 hq (by have := HI.out.qlen; omega) (fun x hx => by have := (HI.out.qat x hx).2; omega) (by omega) (by omega) (by omega)).mono ?_
    rintro e w'' ⟨v, rfl, ho, hq', hc⟩
    rw [HLT.out] at ho
    rw [HQD.out] at hq'
    obtain ⟨va, ca', rfl⟩ := ho.sl
    obtain ⟨z1, z2⟩ := back qd s.ql w'' hq' hc
    exact ⟨(va, ca'), rfl, y1.trans z2, z1, fun _ => ho.mono fun k _ hk => Nat.le_trans y1.size hk⟩
  · obtain ⟨c2, y2, o2⟩ := h2
    obtain ⟨xa, xc⟩ := x
    have HO2 := Lib.hid (o2 rfl)
    have HS2 : Hid (St a (K.nx SS w0 w1) w2 (sca a rv tv { s with now := s.now + 1 }) rv tv tn tx { s with now := s.now + 1, q := qd } w2) := St.start y2
    have C2 := Lib.hid c2
    have HDIS : Hid (∀ k, w1.heap.size ≤ k → K.nx SS w0 w1 k → False) := fun k h1 h2 => by have := h2.2; omega
    clear c2 y2 o2 HB1
    simp only [lay_tik1, puts, List.setIfInBounds_toArray, List.set_cons_succ, List.set_cons_zero]
    go_wp2_with fail
    go_loopw [26] (fun i wr => ∃ n : Nat, n ≤ lt.length ∧ i = .int .i64 n ∧ Hid (St a (K.nx SS w0 w1) w2 (sca a rv tv { s with now := s.now + 1 }) rv tv tn tx { s with now := s.now + 1, q := qd, rs := lateTo (s.now + 1) lt s.rs n } wr)) (fun i _ => lt.length - (intOf i).toNat)
    case atStart => exact ⟨0, Nat.zero_le _, rfl, HS2.out⟩
    case round =>
      obtain ⟨n, hk, rfl, HR⟩ := hrel
      by_cases hnl : n < lt.length
      · obtain ⟨x, hx⟩ : ∃ x, lt[n]? = some x := ⟨lt[n], List.getElem?_eq_getElem hnl⟩
        obtain ⟨x0, x1⟩ := HLM.out x (List.mem_of_getElem? hx)
        obtain ⟨kx, hkx⟩ : ∃ kx : Nat, x.1 = kx := ⟨x.1.toNat, by omega⟩
        have ho := HO2.out.chg HR.out.2 HDIS.out
        obtain ⟨g5, o5, rfl, hS, hg, hcap, hmax⟩ := ho.some_ (by omega)
        have e0 : wr.cell? ⟨g5, o5 + n, none⟩ = some (.int .i64 kx) := by
          rw [ho.cellAt n (by omega), List.getElem?_map, hx, ← hkx]; rfl
        have HN := Lib.hid (lateTo_next (now := s.now + 1) (rs := s.rs) hx)
        have hll := lateTo_len (s.now + 1) lt s.rs n
        clear ho hS hmax hx
        go_wp2_with fail
        refine (stand_any HR.out (sc22 a rv tv _) (sc20 a rv tv _) kx (by show kx < (lateTo (s.now + 1) lt s.rs n).length; omega) (by show (lateTo (s.now + 1) lt s.rs n).length ≤ _; omega) 4).mono ?_
        rintro e w4 ⟨rfl, h4⟩
        have H4 := Lib.hid h4
        clear h4
        go_wp2_with fail
        go_roundw
        case rel =>
          refine ⟨n + 1, by omega, by go_num, ?_⟩
          rw [HN.out, hkx]
          exact H4.out
        case measure => simp [intOf]; omega
      · obtain rfl : n = lt.length := by omega
        have H3 : Hid (St a SS w0 (sca a rv tv { s with now := s.now + 1 }) rv tv tn tx { s with now := s.now + 1, q := qd, rs := lateTo (s.now + 1) lt s.rs lt.length } wr) := St.rebase2 H1.out C2.out HR.out
        clear HR HS2 HO2 C2 H1 HDIS
        generalize hrs : lateTo (s.now + 1) lt s.rs lt.length = rs2 at *
        have HRS : Hid (mid a.rd s = { s with now := s.now + 1, q := qd, rs := rs2, pods := s.pods.map (M.ripe (s.now + 1) a.rd) }) := by
          show _ = _
          unfold mid
          rw [HLT.out, HQD.out, ← hrs, lateTo_all]
        clear hrs
        obtain ⟨OK, hps, _⟩ := pods_small (n := s.rs.length) HI.out.pods (by have := HI.out.load; omega) hr (by omega) (by omega)
        have HOK := Lib.hid OK
        clear OK
        go_wp2_with fail
        refine tik6_at (by kernel_rfl) a.p a.l (s.now + 1) a.rd (fun _ b w' => St a SS w0 (sca a rv tv { s with now := s.now + 1 }) rv tv tn tx (cond b (mid a.rd s) { s with now := s.now + 1, q := qd, rs := rs2 }) w') (fun _ _ y => by rw [y.blk.cell]; exact sc20 _ _ _ _) (fun _ _ y => by rw [y.blk.cell]; exact sc17 _ _ _ _) (fun _ w' y => (pods_any y (sc21 a rv tv _)).mono fun e w'' ⟨h1, h2⟩ => ⟨h1, y.no h2⟩) (fun _ w' y => ?_) _ rfl rfl () (H3.out.no (Chg.refl No _).drew) fun _ w3 h3 => ?_
        · obtain ⟨C, hl, back⟩ := y.life
          refine (A.ripe_any w' C a.l s.pods s.made hl HOK.out (s.now + 1) a.rd hrd.1 hrd.2).mono fun e w'' ⟨h1, h2, h3⟩ => ⟨h1, ?_⟩
          show St a SS w0 _ rv tv tn tx (mid a.rd s) w''
          rw [HRS.out]
          exact back _ s.made w'' (LifeR.wide.nx' LifeR.good h2) h3
        · have H4 : Hid (St a SS w0 (sca a rv tv (mid a.rd s)) rv tv tn tx (mid a.rd s) w3) := h3
          clear h3 H3 HRS HOK hps HLT HQD HLM hltl
          simp only [lay_tik6, puts, List.setIfInBounds_toArray, List.set_cons_succ, List.set_cons_zero]
          have c32 : w3.cell? ⟨a.p, 32, none⟩ = some (.int .i64 s.lost) := by rw [H4.out.blk.cell]; exact sc32 _ _ _ _
          have f32 := H4.out.blk.free 32
          have HT1 := Lib.hid (HI.out.tick1 (rd := a.rd) hli.2)
          have hlo := HI.out.lost
          have HTK : Hid (V.tick a.bu a.li a.rd s = V.sent a.li (V.tick3 (V.tick2 a.bu a.li (V.tick1 a.rd s)))) := rfl
          by_cases hlost : 0 < s.lost
          · have k1 : decide (0 < s.lost) = true := decide_eq_true hlost
            have e1 := tick1_lost (rd := a.rd) hlost
            go_wp2_with fail
            have H5 : Hid (St a SS w0 (sca a rv tv (V.tick1 a.rd s)) rv tv tn tx (V.tick1 a.rd s) (w3.setCell ⟨a.p, 32, none⟩ (.int .i64 (s.lost - 1)))) := by
              have h5 := H4.out.cell 32 (.int .i64 (s.lost - 1))
              rw [sc_set32] at h5
              rw [e1]
              exact h5
            clear H4 c32 f32 e1 k1
            generalize w3.setCell ⟨a.p, 32, none⟩ (.int .i64 (s.lost - 1)) = w5 at *
            generalize V.tick1 a.rd s = s1 at *
            have HI1 := Lib.hid HT1.out.1
            have hnow := HT1.out.2.2.2.1
            have hlen1 := HT1.out.2.2.2.2
            have hz1 := HI1.out.now0
            have hcnt := HI1.out.pods.cnt
            have hrl := V.ready_len s1.pods
            have hql1 := HI1.out.qlen
            obtain ⟨hpk, hpl, _⟩ := pods_small (n := s1.rs.length) HI1.out.pods (by have := HI1.out.load; omega) (by omega) (by omega) (by omega)
            have HPK := Lib.hid hpk
            have HDC := Lib.hid HI1.out.dec
            obtain ⟨rdy, hrdy⟩ : ∃ rdy, (M.ready s1.pods).length = rdy := ⟨_, rfl⟩
            have HRD := Lib.hid hrdy
            rw [hrdy] at hrl
            have HDOK := Lib.hid (V.nextD_ok a.bu a.li HI1.out.dec HT1.out.2.1 hz1 (r := (rdy : Int)) (by omega) (by omega))
            obtain ⟨D, hD⟩ : ∃ D, De.nextD a.bu a.li s1.b0 s1.b1 s1.wl s1.si s1.mo s1.now rdy = D := ⟨_, rfl⟩
            have HD := Lib.hid hD
            have hE2 : V.tick2 a.bu a.li s1 = { s1 with wl := D.l, hl := s1.now, si := D.since, mo := D.most, dl := s1.now, ld := ⟨s1.now, D.stable, D.quick, D.want, D.panic, D.excess⟩, proxy := P.proxy a.bu rdy D.excess, zs := P.nextState s1.zs s1.now (P.proxy a.bu rdy D.excess), want := P.wantAt (P.nextState s1.zs s1.now (P.proxy a.bu rdy D.excess)) s1.now D.want (M.count s1.pods) D.stable s1.q.length (V.flying s1.rs).length } := by
              unfold V.tick2
              rw [hrdy, hD]
            have HE2 := Lib.hid hE2
            have HI2 := Lib.hid (HI1.out.tick2 (bu := a.bu) HT1.out.2.1)
            have HI3 := Lib.hid (HI2.out.tick3 (by omega) HT1.out.2.2.1)
            have hsb := (De.meanB_bd (n := 60) (t := s1.now) (HDC.out.w0.fine (by decide) (by decide)))
            have hqb := (De.meanB_bd (n := 6) (t := s1.now) (HDC.out.w1.fine (by decide) (by decide)))
            have hstb : 0 ≤ D.stable ∧ D.stable ≤ 1152921504606846976 := by rw [← hD]; exact hsb
            clear hpk hrdy hD hE2 hsb
            go_wp2_with fail
            refine (pods_any H5.out (sc21 a rv tv _)).mono ?_
            rintro e w6 ⟨rfl, hc6⟩
            have H6 := Lib.hid (H5.out.no hc6)
            clear H5 hc6
            go_wp2_with fail
            obtain ⟨C, hl, _⟩ := H6.out.life
            refine (A.ready_any w6 C a.l s1.pods s1.made hl (by omega)).mono ?_
            rintro e w7 ⟨v7, rfl, ho7, hc7⟩
            rw [HRD.out] at ho7
            obtain ⟨va7, ca7, rfl⟩ := ho7.sl
            have H7 := Lib.hid (H6.out.no hc7)
            clear H6 hl ho7 hc7
            go_wp2_with fail
            refine tik11_at (by kernel_rfl) a.p a.d s1.now rdy D.stable D.quick D.want D.panic D.excess (fun _ b0 b1 w' => St a SS w0 (cond b1 (sca a rv tv { s1 with ld := ⟨s1.now, D.stable, D.quick, D.want, D.panic, D.excess⟩ }) (sca a rv tv s1)) rv tv tn tx (cond b0 { s1 with wl := D.l, hl := s1.now, si := D.since, mo := D.most, dl := s1.now } s1) w') (fun _ _ y => by rw [y.blk.cell]; exact sc20 _ _ _ _) (fun _ w' y => (decides_any y (sc21 a rv tv _)).mono fun e w'' ⟨h1, h2⟩ => ⟨h1, y.no h2⟩) (fun _ w' y => ?_) (fun _ w' y => ?_) _ rfl rfl rfl () (H7.out.no (Chg.refl No _).drew) fun _ w8 h8 => ?_
            · obtain ⟨C, hd, back⟩ := y.dec
              have hdc := HDC.out
              refine (De.next_any HM.out a.bu a.ini a.li a.rd HK.out a.d s1.b0 s1.b1 s1.nw s1.wl s1.hl s1.si s1.mo s1.dl s1.now rdy w' C hd (hdc.w0.fine (by decide) (by decide)) (hdc.w1.fine (by decide) (by decide)) hz1 (by omega) hdc.nwB.2 hdc.dlB.2 (by omega) (by omega) hdc.siB.1 hdc.siB.2 (by have := hdc.hlB.1; omega) hdc.hlB.2 (by have := hdc.hlB; omega) hdc.wlB).mono fun e w'' ⟨h1, h2, h3⟩ => ⟨?_, ?_⟩
              · rw [h1, HD.out]
              · rw [HD.out] at h2
                exact back _ _ _ _ _ _ _ _ w'' h2 h3
            · have y' : St a SS w0 (sca a rv tv s1) rv tv tn tx { s1 with wl := D.l, hl := s1.now, si := D.since, mo := D.most, dl := s1.now } w' := y
              refine ⟨_, _, _, _, _, _, by rw [y'.blk.cell]; exact sc23 _ _ _ _, by rw [y'.blk.cell]; exact sc24 _ _ _ _, by rw [y'.blk.cell]; exact sc25 _ _ _ _, by rw [y'.blk.cell]; exact sc26 _ _ _ _, by rw [y'.blk.cell]; exact sc27 _ _ _ _, by rw [y'.blk.cell]; exact sc28 _ _ _ _, y'.blk.free 23, y'.blk.free 24, y'.blk.free 25, y'.blk.free 26, y'.blk.free 27, y'.blk.free 28, ?_⟩
              have h6 := (((((y'.cell 23 (.int .i64 s1.now)).cell 24 (.int .i64 D.stable)).cell 25 (.int .i64 D.quick)).cell 26 (.int .i64 D.want)).cell 27 (.bool D.panic)).cell 28 (.int .i64 D.excess)
              rw [sc_setld] at h6
              exact h6
            obtain ⟨sA, hsA⟩ : ∃ sA : V.Sys, sA = { s1 with wl := D.l, hl := s1.now, si := D.since, mo := D.most, dl := s1.now, ld := ⟨s1.now, D.stable, D.quick, D.want, D.panic, D.excess⟩ } := ⟨_, rfl⟩
            have H8 : Hid (St a SS w0 (sca a rv tv sA) rv tv tn tx sA w8) := by rw [hsA]; exact h8
            clear h8 H7
            simp only [lay_tik11, puts, List.setIfInBounds_toArray, List.set_cons_succ, List.set_cons_zero]
            have a1 : sA.now = s1.now := by rw [hsA]
            have a2 : sA.ld.excess = D.excess := by rw [hsA]
            have a3 : sA.zs = s1.zs := by rw [hsA]
            have a4 : sA.ld.want = D.want := by rw [hsA]
            have a5 : sA.ld.stable = D.stable := by rw [hsA]
            have a6 : sA.pods = s1.pods := by rw [hsA]
            have a7 : sA.q = s1.q := by rw [hsA]
            have a8 : sA.rs = s1.rs := by rw [hsA]
            have a9 : sA.made = s1.made := by rw [hsA]
            have HSA := Lib.hid hsA
            clear hsA
            go_wp2_with fail
            obtain ⟨px, hpx⟩ : ∃ px, P.proxy a.bu rdy D.excess = px := ⟨_, rfl⟩
            have HPX := Lib.hid hpx
            clear hpx
            refine tik12_at (by kernel_rfl) a.bu a.ini a.li a.rd a.p rdy D.excess px (fun _ b w' => St a SS w0 (cond b (sca a rv tv { sA with proxy := px }) (sca a rv tv sA)) rv tv tn tx sA w') (fun _ _ y => y.row) (fun _ _ y => by rw [y.blk.cell, ← a2]; exact sc28 _ _ _ _) (fun _ w' y => (proxy_any HM.out a.bu a.ini a.li a.rd HK.out rdy D.excess w').mono fun e w'' ⟨h1, h2⟩ => ⟨by rw [h1, HPX.out], y.no h2⟩) (fun _ w' y => ?_) _ rfl rfl rfl () (H8.out.no (Chg.refl No _).drew) fun _ w9 h9 => ?_
            · refine ⟨_, by rw [y.blk.cell]; exact sc30 _ _ _ _, y.blk.free 30, ?_⟩
              have h6 := y.cell 30 (.bool px)
              have e6 : (cond false (sca a rv tv { sA with proxy := px }) (sca a rv tv sA)).setIfInBounds 30 (.bool px) = sca a rv tv { sA with proxy := px } := sc_set30 _ _ _ _ _
              rw [e6] at h6
              exact h6
            have H9 : Hid (St a SS w0 (sca a rv tv { sA with proxy := px }) rv tv tn tx { sA with proxy := px } w9) := h9
            clear h9 H8
            simp only [lay_tik12, puts, List.setIfInBounds_toArray, List.set_cons_succ, List.set_cons_zero]
            go_wp2_with fail
            obtain ⟨zt, hzt⟩ : ∃ zt, P.nextState s1.zs s1.now px = zt := ⟨_, rfl⟩
            have HZT := Lib.hid hzt
            clear hzt
            refine tik13_at (by kernel_rfl) a.p s1.now s1.zs px zt (fun _ b w' => St a SS w0 (cond b (sca a rv tv { sA with proxy := px, zs := zt }) (sca a rv tv { sA with proxy := px })) rv tv tn tx sA w') (fun _ _ y => by rw [y.blk.cell, ← a3]; exact sc31 _ _ _ _) (fun _ _ y => by rw [y.blk.cell, ← a1]; exact sc20 _ _ _ _) (fun _ _ y => by rw [y.blk.cell]; exact sc30 _ _ _ _) (fun _ w' y => (zero_next s1.zs s1.now px w').mono fun e w'' ⟨h1, h2⟩ => ⟨by rw [h1, HZT.out], y.no h2⟩) (fun _ w' y => ?_) _ rfl rfl () (H9.out.no (Chg.refl No _).drew) fun _ w10 h10 => ?_
            · refine ⟨_, by rw [y.blk.cell]; exact sc31 _ _ _ _, y.blk.free 31, ?_⟩
              have h6 := y.cell 31 (.int .i64 zt)
              have e6 : (cond false (sca a rv tv { sA with proxy := px, zs := zt }) (sca a rv tv { sA with proxy := px })).setIfInBounds 31 (.int .i64 zt) = sca a rv tv { sA with proxy := px, zs := zt } := sc_set31 a rv tv { sA with proxy := px } zt
              rw [e6] at h6
              exact h6
            have H10 : Hid (St a SS w0 (sca a rv tv { sA with proxy := px, zs := zt }) rv tv tn tx { sA with proxy := px, zs := zt } w10) := h10
            clear h10 H9
            simp only [lay_tik13, puts, List.setIfInBounds_toArray, List.set_cons_succ, List.set_cons_zero]
            go_wp2_with fail
            have hztb : -1 ≤ zt ∧ zt ≤ s1.now := by
              have hzs := HI1.out.zs
              rw [← HZT.out]
              unfold P.nextState
              split
              · split <;> omega
              · omega
            obtain ⟨wt, hwt⟩ : ∃ wt, P.wantAt zt s1.now D.want (M.count s1.pods) D.stable s1.q.length (V.flying s1.rs).length = wt := ⟨_, rfl⟩
            have HWT := Lib.hid hwt
            clear hwt
            refine tik14_at (by kernel_rfl) a.bu a.ini a.li a.rd a.p a.l a.q s1.now zt D.want D.stable (M.count s1.pods) s1.q.length (V.flying s1.rs).length wt (fun _ b w' => St a SS w0 (cond b (sca a rv tv { sA with proxy := px, zs := zt, want := wt }) (sca a rv tv { sA with proxy := px, zs := zt })) rv tv tn tx sA w') (fun _ _ y => y.row) (fun _ _ y => by rw [y.blk.cell]; exact sc31 _ _ _ _) (fun _ _ y => by rw [y.blk.cell, ← a1]; exact sc20 _ _ _ _) (fun _ _ y => by rw [y.blk.cell, ← a4]; exact sc26 _ _ _ _) (fun _ _ y => by rw [y.blk.cell, ← a5]; exact sc24 _ _ _ _) (fun _ w' y => (pods_any y (sc21 a rv tv _)).mono fun e w'' ⟨h1, h2⟩ => ⟨h1, y.no h2⟩) (fun _ w' y => ?_) (fun _ w' y => (waits_any y (sc21 a rv tv _)).mono fun e w'' ⟨h1, h2⟩ => ⟨h1, y.no h2⟩) (fun _ w' y => ?_) (fun _ w' y => ?_) (fun _ w' y => (zero_want HM.out a.bu a.ini a.li a.rd HK.out zt s1.now D.want (M.count s1.pods) D.stable s1.q.length (V.flying s1.rs).length w' hz1 (by omega) hztb.1 (by omega)).mono fun e w'' ⟨h1, h2⟩ => ⟨by rw [h1, HWT.out], y.no h2⟩) (fun _ w' y => ?_) _ rfl rfl ((none, 0), (none, 0)) (H10.out.no (Chg.refl No _).drew) fun _ w11 h11 => ?_
            · obtain ⟨C, hl, _⟩ := y.life
              rw [a6] at hl
              exact (A.count_any w' C a.l s1.pods _ hl (by omega)).mono fun e w'' ⟨h1, h2⟩ => ⟨h1, y.no h2⟩
            · obtain ⟨C, hl, _⟩ := y.queue
              rw [a7] at hl
              refine (B.all_any w' C a.q s1.q 100 _ hl (by omega)).mono ?_
              rintro e w'' ⟨v, rfl, ho, hc⟩
              obtain ⟨va, ca', rfl⟩ := ho.sl
              exact ⟨(va, ca'), rfl, y.no hc⟩
            · obtain ⟨C, ho0⟩ := y.rq
              rw [a8] at ho0
              refine (flying_c a.p rv s1.rs w' C _ y.blk (sc22 a rv tv _) ho0 (by omega)).mono ?_
              rintro e w'' ⟨v, rfl, ho, hc⟩
              obtain ⟨va, ca', rfl⟩ := ho.sl
              exact ⟨(va, ca'), rfl, y.no hc⟩
            · refine ⟨_, by rw [y.blk.cell]; exact sc29 _ _ _ _, y.blk.free 29, ?_⟩
              have h6 := y.cell 29 (.int .i64 wt)
              have e6 : (cond false (sca a rv tv { sA with proxy := px, zs := zt, want := wt }) (sca a rv tv { sA with proxy := px, zs := zt })).setIfInBounds 29 (.int .i64 wt) = sca a rv tv { sA with proxy := px, zs := zt, want := wt } := sc_set29 a rv tv { sA with proxy := px, zs := zt } wt
              rw [e6] at h6
              exact h6
            have hE3 : V.tick2 a.bu a.li s1 = { sA with proxy := px, zs := zt, want := wt } := by
              rw [HE2.out, HSA.out, HPX.out, HZT.out, HWT.out]
            have H11 : Hid (St a SS w0 (sca a rv tv (V.tick2 a.bu a.li s1)) rv tv tn tx (V.tick2 a.bu a.li s1) w11) := by
              rw [hE3]
              exact h11
            have b1 : (V.tick2 a.bu a.li s1).now = s1.now := by rw [hE3]; exact a1
            have b2 : (V.tick2 a.bu a.li s1).want = wt := by rw [hE3]
            have b3 : (V.tick2 a.bu a.li s1).pods = s1.pods := by rw [hE3]; exact a6
            have b4 : (V.tick2 a.bu a.li s1).rs = s1.rs := by rw [hE3]; exact a8
            have b5 : (V.tick2 a.bu a.li s1).made = s1.made := by rw [hE3]; exact a9
            clear h11 H10 hE3 HE2 HSA a1 a2 a3 a4 a5 a6 a7 a8 a9 HZT HWT HPX HD HDOK
            simp only [lay_tik14, puts, List.setIfInBounds_toArray, List.set_cons_succ, List.set_cons_zero]
            generalize V.tick2 a.bu a.li s1 = s2 at *
            have hw2 := HI2.out.want
            rw [b2] at hw2
            by_cases h100 : 100 < wt
            · go_wp2_with fail
              have hS : Hid (St a SS w0 (sca a rv tv s2) rv tv tn tx s2 w11.drew) ∧ rowOf w11.drew a.p 0 20 = some (.agg (ca a.bu a.ini a.li a.rd)) ∧ w11.drew.cell? ⟨a.p, 29, none⟩ = some (.int .i64 wt) := keepT b2 (H11.out.no (Chg.refl No _).drew)
              go_region_held3 (fun w' => Hid (St a SS w0 (sca a rv tv s2) rv tv tn tx s2 w') ∧ rowOf w' a.p 0 20 = some (.agg (ca a.bu a.ini a.li a.rd)) ∧ w'.cell? ⟨a.p, 29, none⟩ = some (.int .i64 wt)) (first | exact hS | assumption | exact keepT2 b2 (by assumption) hc) (first | (go_at_call 66; refine (P.most_any a.bu a.ini a.li a.rd _).mono ?_; rintro e w12 ⟨rfl, hc⟩))
              rename_i hHeld
              have H12 := hHeld.1
              clear hHeld hS hc H11
              go_wp2_with fail
              refine (pods_any H12.out (sc21 a rv tv _)).mono ?_
              rintro e w13 ⟨rfl, hc13⟩
              have H13 := Lib.hid (H12.out.no hc13)
              clear H12 hc13
              go_wp2_with fail
              obtain ⟨C, hl, _⟩ := H13.out.life
              rw [b3] at hl
              refine (A.count_any w13 C a.l s1.pods _ hl (by omega)).mono ?_
              rintro e w14 ⟨rfl, hc14⟩
              have H14 := Lib.hid (H13.out.no hc14)
              clear H13 hl hc14
              have HT3 : Hid (V.tick3 s2 = { s2 with pods := (M.scale 100 s1.now s1.pods s1.made).1, made := (M.scale 100 s1.now s1.pods s1.made).2 }) := by
                show _ = _
                unfold V.tick3
                rw [b1, b2, b3, b5, show (min wt 100).toNat = 100 by omega]
              by_cases hct : (100 : Nat) = M.count s1.pods
              · have kk : (((100 : Nat) : Int) != (M.count s1.pods : Int)) = false := by rw [hct]; simp
                have H15 : Hid (St a SS w0 (sca a rv tv (V.tick3 s2)) rv tv tn tx (V.tick3 s2) w14) := by
                  rw [HT3.out, hct, scale_same, ← b3, ← b5]
                  exact H14.out
                clear H14
                skip
                go_wp2_with fail
                refine (sent_any H15.out HI3.out.send (by show s2.now ≤ _; omega) (by show s2.rs.length ≤ _; rw [b4]; omega) (by omega) (by omega)).mono ?_
                rintro e w16 ⟨rfl, h16⟩
                have H16 := Lib.hid h16
                have HI4 := Lib.hid HI3.out.sent
                have hn4 : (V.sent a.li (V.tick3 s2)).now = s1.now := by show s2.now = _; exact b1
                have hl4 : (V.sent a.li (V.tick3 s2)).rs.length = s1.rs.length := by rw [V.sent_len]; show s2.rs.length = _; rw [b4]
                clear H15 h16 HT3 HI3 HI2 HDC HPK
                generalize V.sent a.li (V.tick3 s2) = s4 at *
                obtain ⟨C, ⟨_, hot⟩, _⟩ := H16.out.trace
                obtain ⟨vt, ct, htv⟩ := hot.sl
                subst htv
                clear hot
                obtain ⟨_, hpl4, _⟩ := pods_small (n := s4.rs.length) HI4.out.pods (by have := HI4.out.load; omega) (by omega) (by omega) (by omega)
                have hq4 := HI4.out.qlen
                go_wp2_with fail
                refine tik19_at (by kernel_rfl) a.p vt tn ct s4.now s4.want s4.ld.panic s4.proxy s4.pods.length s4.q.length (V.ends s4.rs 2) (V.ends s4.rs 0) (V.ends s4.rs 1) (V.ends s4.rs 2) (V.ends s4.rs 3) (V.ends s4.rs 4) (V.ends s4.rs 5) (V.ends s4.rs 6) (Xtr a SS w0 rv (.slice vt tn ct) tn tx s4 (fun x => (vcells s4.now s4.want s4.ld.panic s4.proxy x.1.1 s4.pods.length x.1.2 s4.q.length (V.ends s4.rs 2) (V.ends s4.rs)).toList)) (fun _ _ _ _ y => by rw [y.1.blk.cell]; exact sc33 _ _ _ _) (fun x w' y => ?_) (fun x _ y => Xtr.make (fun _ _ => rfl) x y) (fun x _ y => Xtr.app (fun _ _ => rfl) ht x y) (fun x _ y => Xtr.store x y) _ rfl rfl ((none, 0), 0, (none, 0)) ⟨H16.out.no (Chg.refl No _).drew, (fun h => by cases h), rfl⟩ fun x w17 h17 => ?_
                · refine (see_any (s := s4) y.1 (by omega) (by omega) (by omega) HI4.out.rst).mono ?_
                  rintro e w'' ⟨va, ca', rfl, _, hc⟩
                  exact ⟨(va, ca'), rfl, y.1.no hc, (fun h => by cases h), rfl⟩
                have H17 : Hid (St a SS w0 (sca a rv (.slice x.2.2.1 (tn + 1) x.2.2.2) s4) rv (.slice x.2.2.1 (tn + 1) x.2.2.2) (tn + 1) (tx ++ (vcells s4.now s4.want s4.ld.panic s4.proxy x.1.1 s4.pods.length x.1.2 s4.q.length (V.ends s4.rs 2) (V.ends s4.rs)).toList) s4 w17) := h17.1
                clear h17 H16
                simp only [lay_tik19, puts, List.setIfInBounds_toArray, List.set_cons_succ, List.set_cons_zero]
                generalize tx ++ (vcells s4.now s4.want s4.ld.panic s4.proxy x.1.1 s4.pods.length x.1.2 s4.q.length (V.ends s4.rs 2) (V.ends s4.rs)).toList = tx2 at *
                obtain ⟨⟨x1, x2⟩, x3, x4, x5⟩ := x
                have c33 : w17.cell? ⟨a.p, 33, none⟩ = some (.slice x4 (tn + 1) x5) := by rw [H17.out.blk.cell]; exact sc33 _ _ _ _
                have f33 := H17.out.blk.free 33
                by_cases htn : tn = 1000
                · subst htn
                  obtain ⟨C, ⟨_, hot⟩, _⟩ := H17.out.trace
                  obtain ⟨g9, o9, rfl, _, _, hcp, hcm⟩ := hot.some_ (by omega)
                  clear hot
                  go_wp2_with fail
                  go_returns
                  rw [HTK.out]
                  exact ⟨rfl, _, _, Nat.le_refl 1000, _, reslice H17.out⟩
                · have k9 : decide (1000 < ((tn + 1 : Nat) : Int)) = false := decide_eq_false (by omega)
                  go_wp2
                  go_returns
                  rw [HTK.out]
                  exact ⟨rfl, _, _, by omega, _, H17.out⟩
              · have kk : (((100 : Nat) : Int) != (M.count s1.pods : Int)) = true := by
                  rw [bne_iff_ne]
                  omega
                skip
                go_wp2_with fail
                refine tik17_at (by kernel_rfl) a.p a.l s1.now (100 : Nat) (fun _ b w' => St a SS w0 (sca a rv tv s2) rv tv tn tx (cond b (V.tick3 s2) s2) w') (fun _ _ y => by rw [y.blk.cell, ← b1]; exact sc20 _ _ _ _) (fun _ w' y => (pods_any y (sc21 a rv tv _)).mono fun e w'' ⟨h1, h2⟩ => ⟨h1, y.no h2⟩) (fun _ w' y => ?_) _ rfl rfl rfl () (H14.out.no (Chg.refl No _).drew) fun _ w15 h15 => ?_
                · have y' : St a SS w0 (sca a rv tv s2) rv tv tn tx s2 w' := y
                  obtain ⟨C, hl, back⟩ := y'.life
                  rw [b3, b5] at hl
                  have hmd := HI1.out.pods.made
                  refine (A.scale_any w' C a.l s1.pods s1.made hl HPK.out 100 s1.now (by omega) hz1 (by omega) (by omega) hmd.1 (by omega)).mono fun e w'' ⟨h1, h2, h3⟩ => ⟨h1, ?_⟩
                  show St a SS w0 _ rv tv tn tx (V.tick3 s2) w''
                  rw [HT3.out]
                  exact back _ _ w'' h2 h3
                · have H15 : Hid (St a SS w0 (sca a rv tv (V.tick3 s2)) rv tv tn tx (V.tick3 s2) w15) := h15
                  clear h15 H14
                  simp only [lay_tik17, puts, List.setIfInBounds_toArray, List.set_cons_succ, List.set_cons_zero]
                  generalize w15 = w14 at *
                  go_wp2_with fail
                  refine (sent_any H15.out HI3.out.send (by show s2.now ≤ _; omega) (by show s2.rs.length ≤ _; rw [b4]; omega) (by omega) (by omega)).mono ?_
                  rintro e w16 ⟨rfl, h16⟩
                  have H16 := Lib.hid h16
                  have HI4 := Lib.hid HI3.out.sent
                  have hn4 : (V.sent a.li (V.tick3 s2)).now = s1.now := by show s2.now = _; exact b1
                  have hl4 : (V.sent a.li (V.tick3 s2)).rs.length = s1.rs.length := by rw [V.sent_len]; show s2.rs.length = _; rw [b4]
                  clear H15 h16 HT3 HI3 HI2 HDC HPK
                  generalize V.sent a.li (V.tick3 s2) = s4 at *
                  obtain ⟨C, ⟨_, hot⟩, _⟩ := H16.out.trace
                  obtain ⟨vt, ct, htv⟩ := hot.sl
                  subst htv
                  clear hot
                  obtain ⟨_, hpl4, _⟩ := pods_small (n := s4.rs.length) HI4.out.pods (by have := HI4.out.load; omega) (by omega) (by omega) (by omega)
                  have hq4 := HI4.out.qlen
                  go_wp2_with fail
                  refine tik19_at (by kernel_rfl) a.p vt tn ct s4.now s4.want s4.ld.panic s4.proxy s4.pods.length s4.q.length (V.ends s4.rs 2) (V.ends s4.rs 0) (V.ends s4.rs 1) (V.ends s4.rs 2) (V.ends s4.rs 3) (V.ends s4.rs 4) (V.ends s4.rs 5) (V.ends s4.rs 6) (Xtr a SS w0 rv (.slice vt tn ct) tn tx s4 (fun x => (vcells s4.now s4.want s4.ld.panic s4.proxy x.1.1 s4.pods.length x.1.2 s4.q.length (V.ends s4.rs 2) (V.ends s4.rs)).toList)) (fun _ _ _ _ y => by rw [y.1.blk.cell]; exact sc33 _ _ _ _) (fun x w' y => ?_) (fun x _ y => Xtr.make (fun _ _ => rfl) x y) (fun x _ y => Xtr.app (fun _ _ => rfl) ht x y) (fun x _ y => Xtr.store x y) _ rfl rfl ((none, 0), 0, (none, 0)) ⟨H16.out.no (Chg.refl No _).drew, (fun h => by cases h), rfl⟩ fun x w17 h17 => ?_
                  · refine (see_any (s := s4) y.1 (by omega) (by omega) (by omega) HI4.out.rst).mono ?_
                    rintro e w'' ⟨va, ca', rfl, _, hc⟩
                    exact ⟨(va, ca'), rfl, y.1.no hc, (fun h => by cases h), rfl⟩
                  have H17 : Hid (St a SS w0 (sca a rv (.slice x.2.2.1 (tn + 1) x.2.2.2) s4) rv (.slice x.2.2.1 (tn + 1) x.2.2.2) (tn + 1) (tx ++ (vcells s4.now s4.want s4.ld.panic s4.proxy x.1.1 s4.pods.length x.1.2 s4.q.length (V.ends s4.rs 2) (V.ends s4.rs)).toList) s4 w17) := h17.1
                  clear h17 H16
                  simp only [lay_tik19, puts, List.setIfInBounds_toArray, List.set_cons_succ, List.set_cons_zero]
                  generalize tx ++ (vcells s4.now s4.want s4.ld.panic s4.proxy x.1.1 s4.pods.length x.1.2 s4.q.length (V.ends s4.rs 2) (V.ends s4.rs)).toList = tx2 at *
                  obtain ⟨⟨x1, x2⟩, x3, x4, x5⟩ := x
                  have c33 : w17.cell? ⟨a.p, 33, none⟩ = some (.slice x4 (tn + 1) x5) := by rw [H17.out.blk.cell]; exact sc33 _ _ _ _
                  have f33 := H17.out.blk.free 33
                  by_cases htn : tn = 1000
                  · subst htn
                    obtain ⟨C, ⟨_, hot⟩, _⟩ := H17.out.trace
                    obtain ⟨g9, o9, rfl, _, _, hcp, hcm⟩ := hot.some_ (by omega)
                    clear hot
                    go_wp2_with fail
                    go_returns
                    rw [HTK.out]
                    exact ⟨rfl, _, _, Nat.le_refl 1000, _, reslice H17.out⟩
                  · have k9 : decide (1000 < ((tn + 1 : Nat) : Int)) = false := decide_eq_false (by omega)
                    go_wp2
                    go_returns
                    rw [HTK.out]
                    exact ⟨rfl, _, _, by omega, _, H17.out⟩
            · obtain ⟨nn, hnn⟩ : ∃ nn : Nat, wt = nn := ⟨wt.toNat, by omega⟩
              rw [hnn] at b2 h100 hw2
              clear hnn
              go_wp2_with fail
              have hS : Hid (St a SS w0 (sca a rv tv s2) rv tv tn tx s2 w11.drew) ∧ rowOf w11.drew a.p 0 20 = some (.agg (ca a.bu a.ini a.li a.rd)) ∧ w11.drew.cell? ⟨a.p, 29, none⟩ = some (.int .i64 nn) := keepT b2 (H11.out.no (Chg.refl No _).drew)
              go_region_held3 (fun w' => Hid (St a SS w0 (sca a rv tv s2) rv tv tn tx s2 w') ∧ rowOf w' a.p 0 20 = some (.agg (ca a.bu a.ini a.li a.rd)) ∧ w'.cell? ⟨a.p, 29, none⟩ = some (.int .i64 nn)) (first | exact hS | assumption | exact keepT2 b2 (by assumption) hc) (first | (go_at_call 66; refine (P.most_any a.bu a.ini a.li a.rd _).mono ?_; rintro e w12 ⟨rfl, hc⟩))
              rename_i hHeld
              have H12 := hHeld.1
              clear hHeld hS hc H11
              go_wp2_with fail
              refine (pods_any H12.out (sc21 a rv tv _)).mono ?_
              rintro e w13 ⟨rfl, hc13⟩
              have H13 := Lib.hid (H12.out.no hc13)
              clear H12 hc13
              go_wp2_with fail
              obtain ⟨C, hl, _⟩ := H13.out.life
              rw [b3] at hl
              refine (A.count_any w13 C a.l s1.pods _ hl (by omega)).mono ?_
              rintro e w14 ⟨rfl, hc14⟩
              have H14 := Lib.hid (H13.out.no hc14)
              clear H13 hl hc14
              have HT3 : Hid (V.tick3 s2 = { s2 with pods := (M.scale nn s1.now s1.pods s1.made).1, made := (M.scale nn s1.now s1.pods s1.made).2 }) := by
                show _ = _
                unfold V.tick3
                rw [b1, b2, b3, b5, show (min (nn : Int) 100).toNat = nn by omega]
              by_cases hct : (nn : Nat) = M.count s1.pods
              · have kk : (((nn : Nat) : Int) != (M.count s1.pods : Int)) = false := by rw [hct]; simp
                have H15 : Hid (St a SS w0 (sca a rv tv (V.tick3 s2)) rv tv tn tx (V.tick3 s2) w14) := by
                  rw [HT3.out, hct, scale_same, ← b3, ← b5]
                  exact H14.out
                clear H14
                skip
                go_wp2_with fail
                refine (sent_any H15.out HI3.out.send (by show s2.now ≤ _; omega) (by show s2.rs.length ≤ _; rw [b4]; omega) (by omega) (by omega)).mono ?_
                rintro e w16 ⟨rfl, h16⟩
                have H16 := Lib.hid h16
                have HI4 := Lib.hid HI3.out.sent
                have hn4 : (V.sent a.li (V.tick3 s2)).now = s1.now := by show s2.now = _; exact b1
                have hl4 : (V.sent a.li (V.tick3 s2)).rs.length = s1.rs.length := by rw [V.sent_len]; show s2.rs.length = _; rw [b4]
                clear H15 h16 HT3 HI3 HI2 HDC HPK
                generalize V.sent a.li (V.tick3 s2) = s4 at *
                obtain ⟨C, ⟨_, hot⟩, _⟩ := H16.out.trace
                obtain ⟨vt, ct, htv⟩ := hot.sl
                subst htv
                clear hot
                obtain ⟨_, hpl4, _⟩ := pods_small (n := s4.rs.length) HI4.out.pods (by have := HI4.out.load; omega) (by omega) (by omega) (by omega)
                have hq4 := HI4.out.qlen
                go_wp2_with fail
                refine tik19_at (by kernel_rfl) a.p vt tn ct s4.now s4.want s4.ld.panic s4.proxy s4.pods.length s4.q.length (V.ends s4.rs 2) (V.ends s4.rs 0) (V.ends s4.rs 1) (V.ends s4.rs 2) (V.ends s4.rs 3) (V.ends s4.rs 4) (V.ends s4.rs 5) (V.ends s4.rs 6) (Xtr a SS w0 rv (.slice vt tn ct) tn tx s4 (fun x => (vcells s4.now s4.want s4.ld.panic s4.proxy x.1.1 s4.pods.length x.1.2 s4.q.length (V.ends s4.rs 2) (V.ends s4.rs)).toList)) (fun _ _ _ _ y => by rw [y.1.blk.cell]; exact sc33 _ _ _ _) (fun x w' y => ?_) (fun x _ y => Xtr.make (fun _ _ => rfl) x y) (fun x _ y => Xtr.app (fun _ _ => rfl) ht x y) (fun x _ y => Xtr.store x y) _ rfl rfl ((none, 0), 0, (none, 0)) ⟨H16.out.no (Chg.refl No _).drew, (fun h => by cases h), rfl⟩ fun x w17 h17 => ?_
                · refine (see_any (s := s4) y.1 (by omega) (by omega) (by omega) HI4.out.rst).mono ?_
                  rintro e w'' ⟨va, ca', rfl, _, hc⟩
                  exact ⟨(va, ca'), rfl, y.1.no hc, (fun h => by cases h), rfl⟩
                have H17 : Hid (St a SS w0 (sca a rv (.slice x.2.2.1 (tn + 1) x.2.2.2) s4) rv (.slice x.2.2.1 (tn + 1) x.2.2.2) (tn + 1) (tx ++ (vcells s4.now s4.want s4.ld.panic s4.proxy x.1.1 s4.pods.length x.1.2 s4.q.length (V.ends s4.rs 2) (V.ends s4.rs)).toList) s4 w17) := h17.1
                clear h17 H16
                simp only [lay_tik19, puts, List.setIfInBounds_toArray, List.set_cons_succ, List.set_cons_zero]
                generalize tx ++ (vcells s4.now s4.want s4.ld.panic s4.proxy x.1.1 s4.pods.length x.1.2 s4.q.length (V.ends s4.rs 2) (V.ends s4.rs)).toList = tx2 at *
                obtain ⟨⟨x1, x2⟩, x3, x4, x5⟩ := x
                have c33 : w17.cell? ⟨a.p, 33, none⟩ = some (.slice x4 (tn + 1) x5) := by rw [H17.out.blk.cell]; exact sc33 _ _ _ _
                have f33 := H17.out.blk.free 33
                by_cases htn : tn = 1000
                · subst htn
                  obtain ⟨C, ⟨_, hot⟩, _⟩ := H17.out.trace
                  obtain ⟨g9, o9, rfl, _, _, hcp, hcm⟩ := hot.some_ (by omega)
                  clear hot
                  go_wp2_with fail
                  go_returns
                  rw [HTK.out]
                  exact ⟨rfl, _, _, Nat.le_refl 1000, _, reslice H17.out⟩
                · have k9 : decide (1000 < ((tn + 1 : Nat) : Int)) = false := decide_eq_false (by omega)
                  go_wp2
                  go_returns
                  rw [HTK.out]
                  exact ⟨rfl, _, _, by omega, _, H17.out⟩
              · have kk : (((nn : Nat) : Int) != (M.count s1.pods : Int)) = true := by
                  rw [bne_iff_ne]
                  omega
                skip
                go_wp2_with fail
                refine tik17_at (by kernel_rfl) a.p a.l s1.now (nn : Nat) (fun _ b w' => St a SS w0 (sca a rv tv s2) rv tv tn tx (cond b (V.tick3 s2) s2) w') (fun _ _ y => by rw [y.blk.cell, ← b1]; exact sc20 _ _ _ _) (fun _ w' y => (pods_any y (sc21 a rv tv _)).mono fun e w'' ⟨h1, h2⟩ => ⟨h1, y.no h2⟩) (fun _ w' y => ?_) _ rfl rfl rfl () (H14.out.no (Chg.refl No _).drew) fun _ w15 h15 => ?_
                · have y' : St a SS w0 (sca a rv tv s2) rv tv tn tx s2 w' := y
                  obtain ⟨C, hl, back⟩ := y'.life
                  rw [b3, b5] at hl
                  have hmd := HI1.out.pods.made
                  refine (A.scale_any w' C a.l s1.pods s1.made hl HPK.out nn s1.now (by omega) hz1 (by omega) (by omega) hmd.1 (by omega)).mono fun e w'' ⟨h1, h2, h3⟩ => ⟨h1, ?_⟩
                  show St a SS w0 _ rv tv tn tx (V.tick3 s2) w''
                  rw [HT3.out]
                  exact back _ _ w'' h2 h3
                · have H15 : Hid (St a SS w0 (sca a rv tv (V.tick3 s2)) rv tv tn tx (V.tick3 s2) w15) := h15
                  clear h15 H14
                  simp only [lay_tik17, puts, List.setIfInBounds_toArray, List.set_cons_succ, List.set_cons_zero]
                  generalize w15 = w14 at *
                  go_wp2_with fail
                  refine (sent_any H15.out HI3.out.send (by show s2.now ≤ _; omega) (by show s2.rs.length ≤ _; rw [b4]; omega) (by omega) (by omega)).mono ?_
                  rintro e w16 ⟨rfl, h16⟩
                  have H16 := Lib.hid h16
                  have HI4 := Lib.hid HI3.out.sent
                  have hn4 : (V.sent a.li (V.tick3 s2)).now = s1.now := by show s2.now = _; exact b1
                  have hl4 : (V.sent a.li (V.tick3 s2)).rs.length = s1.rs.length := by rw [V.sent_len]; show s2.rs.length = _; rw [b4]
                  clear H15 h16 HT3 HI3 HI2 HDC HPK
                  generalize V.sent a.li (V.tick3 s2) = s4 at *
                  obtain ⟨C, ⟨_, hot⟩, _⟩ := H16.out.trace
                  obtain ⟨vt, ct, htv⟩ := hot.sl
                  subst htv
                  clear hot
                  obtain ⟨_, hpl4, _⟩ := pods_small (n := s4.rs.length) HI4.out.pods (by have := HI4.out.load; omega) (by omega) (by omega) (by omega)
                  have hq4 := HI4.out.qlen
                  go_wp2_with fail
                  refine tik19_at (by kernel_rfl) a.p vt tn ct s4.now s4.want s4.ld.panic s4.proxy s4.pods.length s4.q.length (V.ends s4.rs 2) (V.ends s4.rs 0) (V.ends s4.rs 1) (V.ends s4.rs 2) (V.ends s4.rs 3) (V.ends s4.rs 4) (V.ends s4.rs 5) (V.ends s4.rs 6) (Xtr a SS w0 rv (.slice vt tn ct) tn tx s4 (fun x => (vcells s4.now s4.want s4.ld.panic s4.proxy x.1.1 s4.pods.length x.1.2 s4.q.length (V.ends s4.rs 2) (V.ends s4.rs)).toList)) (fun _ _ _ _ y => by rw [y.1.blk.cell]; exact sc33 _ _ _ _) (fun x w' y => ?_) (fun x _ y => Xtr.make (fun _ _ => rfl) x y) (fun x _ y => Xtr.app (fun _ _ => rfl) ht x y) (fun x _ y => Xtr.store x y) _ rfl rfl ((none, 0), 0, (none, 0)) ⟨H16.out.no (Chg.refl No _).drew, (fun h => by cases h), rfl⟩ fun x w17 h17 => ?_
                  · refine (see_any (s := s4) y.1 (by omega) (by omega) (by omega) HI4.out.rst).mono ?_
                    rintro e w'' ⟨va, ca', rfl, _, hc⟩
                    exact ⟨(va, ca'), rfl, y.1.no hc, (fun h => by cases h), rfl⟩
                  have H17 : Hid (St a SS w0 (sca a rv (.slice x.2.2.1 (tn + 1) x.2.2.2) s4) rv (.slice x.2.2.1 (tn + 1) x.2.2.2) (tn + 1) (tx ++ (vcells s4.now s4.want s4.ld.panic s4.proxy x.1.1 s4.pods.length x.1.2 s4.q.length (V.ends s4.rs 2) (V.ends s4.rs)).toList) s4 w17) := h17.1
                  clear h17 H16
                  simp only [lay_tik19, puts, List.setIfInBounds_toArray, List.set_cons_succ, List.set_cons_zero]
                  generalize tx ++ (vcells s4.now s4.want s4.ld.panic s4.proxy x.1.1 s4.pods.length x.1.2 s4.q.length (V.ends s4.rs 2) (V.ends s4.rs)).toList = tx2 at *
                  obtain ⟨⟨x1, x2⟩, x3, x4, x5⟩ := x
                  have c33 : w17.cell? ⟨a.p, 33, none⟩ = some (.slice x4 (tn + 1) x5) := by rw [H17.out.blk.cell]; exact sc33 _ _ _ _
                  have f33 := H17.out.blk.free 33
                  by_cases htn : tn = 1000
                  · subst htn
                    obtain ⟨C, ⟨_, hot⟩, _⟩ := H17.out.trace
                    obtain ⟨g9, o9, rfl, _, _, hcp, hcm⟩ := hot.some_ (by omega)
                    clear hot
                    go_wp2_with fail
                    go_returns
                    rw [HTK.out]
                    exact ⟨rfl, _, _, Nat.le_refl 1000, _, reslice H17.out⟩
                  · have k9 : decide (1000 < ((tn + 1 : Nat) : Int)) = false := decide_eq_false (by omega)
                    go_wp2
                    go_returns
                    rw [HTK.out]
                    exact ⟨rfl, _, _, by omega, _, H17.out⟩
          · have k1 : decide (0 < s.lost) = false := decide_eq_false hlost
            have e1 := tick1_told (rd := a.rd) hlost
            go_wp2_with fail
            refine tik9_at (by kernel_rfl) a.p a.d (s.now + 1) (V.scrape (mid a.rd s).pods (s.now + 1) (mid a.rd s).q.length) (fun _ b w' => St a SS w0 (sca a rv tv (mid a.rd s)) rv tv tn tx (cond b (V.tick1 a.rd s) (mid a.rd s)) w') (fun _ _ y => by rw [y.blk.cell]; exact sc20 _ _ _ _) (fun _ w' y => (decides_any y (sc21 a rv tv _)).mono fun e w'' ⟨h1, h2⟩ => ⟨h1, y.no h2⟩) (fun _ w' y => (scrape_any (s := mid a.rd s) y HMID.out (by show s.now + 1 ≤ _; omega) (by have h1 : (mid a.rd s).rs.length = s.rs.length := V.late_len ..; omega) hli.2).mono fun e w'' ⟨h1, h2⟩ => ⟨h1, y.no h2⟩) (fun _ w' y => ?_) _ rfl rfl () (H4.out.no (Chg.refl No _).drew) fun _ w4 h4 => ?_
            · have y' : St a SS w0 (sca a rv tv (mid a.rd s)) rv tv tn tx (mid a.rd s) w' := y
              obtain ⟨C, hd, back⟩ := y'.dec
              have hdec := HI.out.dec
              have hbd := V.scrape_bd (li := a.li) (now := s.now + 1) (made := (mid a.rd s).made) HMID.out.pods hli.2 (w := ((mid a.rd s).q.length : Int)) (by omega) (by have := HMID.out.qlen; omega)
              refine (De.put_any a.bu a.ini a.li a.rd a.d s.b0 s.b1 s.nw s.wl s.hl s.si s.mo s.dl (s.now + 1) _ w' C hd (hdec.w0.fine (by decide) (by decide)) (hdec.w1.fine (by decide) (by decide)) hdec.nwB.1 (by have := hdec.nwB.2; omega) (by omega) hbd.1 hbd.2).mono fun e w'' ⟨h1, h2, h3⟩ => ⟨h1, ?_⟩
              show St a SS w0 _ rv tv tn tx (V.tick1 a.rd s) w''
              rw [e1]
              exact back _ _ _ _ _ _ _ _ w'' h2 h3
            · have H5 : Hid (St a SS w0 (sca a rv tv (V.tick1 a.rd s)) rv tv tn tx (V.tick1 a.rd s) w4) := by
                have h4' : St a SS w0 (sca a rv tv (mid a.rd s)) rv tv tn tx (V.tick1 a.rd s) w4 := h4
                rw [e1] at h4' ⊢
                exact h4'
              clear H4 c32 f32 e1 k1 h4
              simp only [lay_tik9, puts, List.setIfInBounds_toArray, List.set_cons_succ, List.set_cons_zero]
              generalize w4 = w5 at *
              generalize V.tick1 a.rd s = s1 at *
              have HI1 := Lib.hid HT1.out.1
              have hnow := HT1.out.2.2.2.1
              have hlen1 := HT1.out.2.2.2.2
              have hz1 := HI1.out.now0
              have hcnt := HI1.out.pods.cnt
              have hrl := V.ready_len s1.pods
              have hql1 := HI1.out.qlen
              obtain ⟨hpk, hpl, _⟩ := pods_small (n := s1.rs.length) HI1.out.pods (by have := HI1.out.load; omega) (by omega) (by omega) (by omega)
              have HPK := Lib.hid hpk
              have HDC := Lib.hid HI1.out.dec
              obtain ⟨rdy, hrdy⟩ : ∃ rdy, (M.ready s1.pods).length = rdy := ⟨_, rfl⟩
              have HRD := Lib.hid hrdy
              rw [hrdy] at hrl
              have HDOK := Lib.hid (V.nextD_ok a.bu a.li HI1.out.dec HT1.out.2.1 hz1 (r := (rdy : Int)) (by omega) (by omega))
              obtain ⟨D, hD⟩ : ∃ D, De.nextD a.bu a.li s1.b0 s1.b1 s1.wl s1.si s1.mo s1.now rdy = D := ⟨_, rfl⟩
              have HD := Lib.hid hD
              have hE2 : V.tick2 a.bu a.li s1 = { s1 with wl := D.l, hl := s1.now, si := D.since, mo := D.most, dl := s1.now, ld := ⟨s1.now, D.stable, D.quick, D.want, D.panic, D.excess⟩, proxy := P.proxy a.bu rdy D.excess, zs := P.nextState s1.zs s1.now (P.proxy a.bu rdy D.excess), want := P.wantAt (P.nextState s1.zs s1.now (P.proxy a.bu rdy D.excess)) s1.now D.want (M.count s1.pods) D.stable s1.q.length (V.flying s1.rs).length } := by
                unfold V.tick2
                rw [hrdy, hD]
              have HE2 := Lib.hid hE2
              have HI2 := Lib.hid (HI1.out.tick2 (bu := a.bu) HT1.out.2.1)
              have HI3 := Lib.hid (HI2.out.tick3 (by omega) HT1.out.2.2.1)
              have hsb := (De.meanB_bd (n := 60) (t := s1.now) (HDC.out.w0.fine (by decide) (by decide)))
              have hqb := (De.meanB_bd (n := 6) (t := s1.now) (HDC.out.w1.fine (by decide) (by decide)))
              have hstb : 0 ≤ D.stable ∧ D.stable ≤ 1152921504606846976 := by rw [← hD]; exact hsb
              clear hpk hrdy hD hE2 hsb
              go_wp2_with fail
              refine (pods_any H5.out (sc21 a rv tv _)).mono ?_
              rintro e w6 ⟨rfl, hc6⟩
              have H6 := Lib.hid (H5.out.no hc6)
              clear H5 hc6
              go_wp2_with fail
              obtain ⟨C, hl, _⟩ := H6.out.life
              refine (A.ready_any w6 C a.l s1.pods s1.made hl (by omega)).mono ?_
              rintro e w7 ⟨v7, rfl, ho7, hc7⟩
              rw [HRD.out] at ho7
              obtain ⟨va7, ca7, rfl⟩ := ho7.sl
              have H7 := Lib.hid (H6.out.no hc7)
              clear H6 hl ho7 hc7
              go_wp2_with fail
              refine tik11_at (by kernel_rfl) a.p a.d s1.now rdy D.stable D.quick D.want D.panic D.excess (fun _ b0 b1 w' => St a SS w0 (cond b1 (sca a rv tv { s1 with ld := ⟨s1.now, D.stable, D.quick, D.want, D.panic, D.excess⟩ }) (sca a rv tv s1)) rv tv tn tx (cond b0 { s1 with wl := D.l, hl := s1.now, si := D.since, mo := D.most, dl := s1.now } s1) w') (fun _ _ y => by rw [y.blk.cell]; exact sc20 _ _ _ _) (fun _ w' y => (decides_any y (sc21 a rv tv _)).mono fun e w'' ⟨h1, h2⟩ => ⟨h1, y.no h2⟩) (fun _ w' y => ?_) (fun _ w' y => ?_) _ rfl rfl rfl () (H7.out.no (Chg.refl No _).drew) fun _ w8 h8 => ?_
              · obtain ⟨C, hd, back⟩ := y.dec
                have hdc := HDC.out
                refine (De.next_any HM.out a.bu a.ini a.li a.rd HK.out a.d s1.b0 s1.b1 s1.nw s1.wl s1.hl s1.si s1.mo s1.dl s1.now rdy w' C hd (hdc.w0.fine (by decide) (by decide)) (hdc.w1.fine (by decide) (by decide)) hz1 (by omega) hdc.nwB.2 hdc.dlB.2 (by omega) (by omega) hdc.siB.1 hdc.siB.2 (by have := hdc.hlB.1; omega) hdc.hlB.2 (by have := hdc.hlB; omega) hdc.wlB).mono fun e w'' ⟨h1, h2, h3⟩ => ⟨?_, ?_⟩
                · rw [h1, HD.out]
                · rw [HD.out] at h2
                  exact back _ _ _ _ _ _ _ _ w'' h2 h3
              · have y' : St a SS w0 (sca a rv tv s1) rv tv tn tx { s1 with wl := D.l, hl := s1.now, si := D.since, mo := D.most, dl := s1.now } w' := y
                refine ⟨_, _, _, _, _, _, by rw [y'.blk.cell]; exact sc23 _ _ _ _, by rw [y'.blk.cell]; exact sc24 _ _ _ _, by rw [y'.blk.cell]; exact sc25 _ _ _ _, by rw [y'.blk.cell]; exact sc26 _ _ _ _, by rw [y'.blk.cell]; exact sc27 _ _ _ _, by rw [y'.blk.cell]; exact sc28 _ _ _ _, y'.blk.free 23, y'.blk.free 24, y'.blk.free 25, y'.blk.free 26, y'.blk.free 27, y'.blk.free 28, ?_⟩
                have h6 := (((((y'.cell 23 (.int .i64 s1.now)).cell 24 (.int .i64 D.stable)).cell 25 (.int .i64 D.quick)).cell 26 (.int .i64 D.want)).cell 27 (.bool D.panic)).cell 28 (.int .i64 D.excess)
                rw [sc_setld] at h6
                exact h6
              obtain ⟨sA, hsA⟩ : ∃ sA : V.Sys, sA = { s1 with wl := D.l, hl := s1.now, si := D.since, mo := D.most, dl := s1.now, ld := ⟨s1.now, D.stable, D.quick, D.want, D.panic, D.excess⟩ } := ⟨_, rfl⟩
              have H8 : Hid (St a SS w0 (sca a rv tv sA) rv tv tn tx sA w8) := by rw [hsA]; exact h8
              clear h8 H7
              simp only [lay_tik11, puts, List.setIfInBounds_toArray, List.set_cons_succ, List.set_cons_zero]
              have a1 : sA.now = s1.now := by rw [hsA]
              have a2 : sA.ld.excess = D.excess := by rw [hsA]
              have a3 : sA.zs = s1.zs := by rw [hsA]
              have a4 : sA.ld.want = D.want := by rw [hsA]
              have a5 : sA.ld.stable = D.stable := by rw [hsA]
              have a6 : sA.pods = s1.pods := by rw [hsA]
              have a7 : sA.q = s1.q := by rw [hsA]
              have a8 : sA.rs = s1.rs := by rw [hsA]
              have a9 : sA.made = s1.made := by rw [hsA]
              have HSA := Lib.hid hsA
              clear hsA
              go_wp2_with fail
              obtain ⟨px, hpx⟩ : ∃ px, P.proxy a.bu rdy D.excess = px := ⟨_, rfl⟩
              have HPX := Lib.hid hpx
              clear hpx
              refine tik12_at (by kernel_rfl) a.bu a.ini a.li a.rd a.p rdy D.excess px (fun _ b w' => St a SS w0 (cond b (sca a rv tv { sA with proxy := px }) (sca a rv tv sA)) rv tv tn tx sA w') (fun _ _ y => y.row) (fun _ _ y => by rw [y.blk.cell, ← a2]; exact sc28 _ _ _ _) (fun _ w' y => (proxy_any HM.out a.bu a.ini a.li a.rd HK.out rdy D.excess w').mono fun e w'' ⟨h1, h2⟩ => ⟨by rw [h1, HPX.out], y.no h2⟩) (fun _ w' y => ?_) _ rfl rfl rfl () (H8.out.no (Chg.refl No _).drew) fun _ w9 h9 => ?_
              · refine ⟨_, by rw [y.blk.cell]; exact sc30 _ _ _ _, y.blk.free 30, ?_⟩
                have h6 := y.cell 30 (.bool px)
                have e6 : (cond false (sca a rv tv { sA with proxy := px }) (sca a rv tv sA)).setIfInBounds 30 (.bool px) = sca a rv tv { sA with proxy := px } := sc_set30 _ _ _ _ _
                rw [e6] at h6
                exact h6
              have H9 : Hid (St a SS w0 (sca a rv tv { sA with proxy := px }) rv tv tn tx { sA with proxy := px } w9) := h9
              clear h9 H8
              simp only [lay_tik12, puts, List.setIfInBounds_toArray, List.set_cons_succ, List.set_cons_zero]
              go_wp2_with fail
              obtain ⟨zt, hzt⟩ : ∃ zt, P.nextState s1.zs s1.now px = zt := ⟨_, rfl⟩
              have HZT := Lib.hid hzt
              clear hzt
              refine tik13_at (by kernel_rfl) a.p s1.now s1.zs px zt (fun _ b w' => St a SS w0 (cond b (sca a rv tv { sA with proxy := px, zs := zt }) (sca a rv tv { sA with proxy := px })) rv tv tn tx sA w') (fun _ _ y => by rw [y.blk.cell, ← a3]; exact sc31 _ _ _ _) (fun _ _ y => by rw [y.blk.cell, ← a1]; exact sc20 _ _ _ _) (fun _ _ y => by rw [y.blk.cell]; exact sc30 _ _ _ _) (fun _ w' y => (zero_next s1.zs s1.now px w').mono fun e w'' ⟨h1, h2⟩ => ⟨by rw [h1, HZT.out], y.no h2⟩) (fun _ w' y => ?_) _ rfl rfl () (H9.out.no (Chg.refl No _).drew) fun _ w10 h10 => ?_
              · refine ⟨_, by rw [y.blk.cell]; exact sc31 _ _ _ _, y.blk.free 31, ?_⟩
                have h6 := y.cell 31 (.int .i64 zt)
                have e6 : (cond false (sca a rv tv { sA with proxy := px, zs := zt }) (sca a rv tv { sA with proxy := px })).setIfInBounds 31 (.int .i64 zt) = sca a rv tv { sA with proxy := px, zs := zt } := sc_set31 a rv tv { sA with proxy := px } zt
                rw [e6] at h6
                exact h6
              have H10 : Hid (St a SS w0 (sca a rv tv { sA with proxy := px, zs := zt }) rv tv tn tx { sA with proxy := px, zs := zt } w10) := h10
              clear h10 H9
              simp only [lay_tik13, puts, List.setIfInBounds_toArray, List.set_cons_succ, List.set_cons_zero]
              go_wp2_with fail
              have hztb : -1 ≤ zt ∧ zt ≤ s1.now := by
                have hzs := HI1.out.zs
                rw [← HZT.out]
                unfold P.nextState
                split
                · split <;> omega
                · omega
              obtain ⟨wt, hwt⟩ : ∃ wt, P.wantAt zt s1.now D.want (M.count s1.pods) D.stable s1.q.length (V.flying s1.rs).length = wt := ⟨_, rfl⟩
              have HWT := Lib.hid hwt
              clear hwt
              refine tik14_at (by kernel_rfl) a.bu a.ini a.li a.rd a.p a.l a.q s1.now zt D.want D.stable (M.count s1.pods) s1.q.length (V.flying s1.rs).length wt (fun _ b w' => St a SS w0 (cond b (sca a rv tv { sA with proxy := px, zs := zt, want := wt }) (sca a rv tv { sA with proxy := px, zs := zt })) rv tv tn tx sA w') (fun _ _ y => y.row) (fun _ _ y => by rw [y.blk.cell]; exact sc31 _ _ _ _) (fun _ _ y => by rw [y.blk.cell, ← a1]; exact sc20 _ _ _ _) (fun _ _ y => by rw [y.blk.cell, ← a4]; exact sc26 _ _ _ _) (fun _ _ y => by rw [y.blk.cell, ← a5]; exact sc24 _ _ _ _) (fun _ w' y => (pods_any y (sc21 a rv tv _)).mono fun e w'' ⟨h1, h2⟩ => ⟨h1, y.no h2⟩) (fun _ w' y => ?_) (fun _ w' y => (waits_any y (sc21 a rv tv _)).mono fun e w'' ⟨h1, h2⟩ => ⟨h1, y.no h2⟩) (fun _ w' y => ?_) (fun _ w' y => ?_) (fun _ w' y => (zero_want HM.out a.bu a.ini a.li a.rd HK.out zt s1.now D.want (M.count s1.pods) D.stable s1.q.length (V.flying s1.rs).length w' hz1 (by omega) hztb.1 (by omega)).mono fun e w'' ⟨h1, h2⟩ => ⟨by rw [h1, HWT.out], y.no h2⟩) (fun _ w' y => ?_) _ rfl rfl ((none, 0), (none, 0)) (H10.out.no (Chg.refl No _).drew) fun _ w11 h11 => ?_
              · obtain ⟨C, hl, _⟩ := y.life
                rw [a6] at hl
                exact (A.count_any w' C a.l s1.pods _ hl (by omega)).mono fun e w'' ⟨h1, h2⟩ => ⟨h1, y.no h2⟩
              · obtain ⟨C, hl, _⟩ := y.queue
                rw [a7] at hl
                refine (B.all_any w' C a.q s1.q 100 _ hl (by omega)).mono ?_
                rintro e w'' ⟨v, rfl, ho, hc⟩
                obtain ⟨va, ca', rfl⟩ := ho.sl
                exact ⟨(va, ca'), rfl, y.no hc⟩
              · obtain ⟨C, ho0⟩ := y.rq
                rw [a8] at ho0
                refine (flying_c a.p rv s1.rs w' C _ y.blk (sc22 a rv tv _) ho0 (by omega)).mono ?_
                rintro e w'' ⟨v, rfl, ho, hc⟩
                obtain ⟨va, ca', rfl⟩ := ho.sl
                exact ⟨(va, ca'), rfl, y.no hc⟩
              · refine ⟨_, by rw [y.blk.cell]; exact sc29 _ _ _ _, y.blk.free 29, ?_⟩
                have h6 := y.cell 29 (.int .i64 wt)
                have e6 : (cond false (sca a rv tv { sA with proxy := px, zs := zt, want := wt }) (sca a rv tv { sA with proxy := px, zs := zt })).setIfInBounds 29 (.int .i64 wt) = sca a rv tv { sA with proxy := px, zs := zt, want := wt } := sc_set29 a rv tv { sA with proxy := px, zs := zt } wt
                rw [e6] at h6
                exact h6
              have hE3 : V.tick2 a.bu a.li s1 = { sA with proxy := px, zs := zt, want := wt } := by
                rw [HE2.out, HSA.out, HPX.out, HZT.out, HWT.out]
              have H11 : Hid (St a SS w0 (sca a rv tv (V.tick2 a.bu a.li s1)) rv tv tn tx (V.tick2 a.bu a.li s1) w11) := by
                rw [hE3]
                exact h11
              have b1 : (V.tick2 a.bu a.li s1).now = s1.now := by rw [hE3]; exact a1
              have b2 : (V.tick2 a.bu a.li s1).want = wt := by rw [hE3]
              have b3 : (V.tick2 a.bu a.li s1).pods = s1.pods := by rw [hE3]; exact a6
              have b4 : (V.tick2 a.bu a.li s1).rs = s1.rs := by rw [hE3]; exact a8
              have b5 : (V.tick2 a.bu a.li s1).made = s1.made := by rw [hE3]; exact a9
              clear h11 H10 hE3 HE2 HSA a1 a2 a3 a4 a5 a6 a7 a8 a9 HZT HWT HPX HD HDOK
              simp only [lay_tik14, puts, List.setIfInBounds_toArray, List.set_cons_succ, List.set_cons_zero]
              generalize V.tick2 a.bu a.li s1 = s2 at *
              have hw2 := HI2.out.want
              rw [b2] at hw2
              by_cases h100 : 100 < wt
              · go_wp2_with fail
                have hS : Hid (St a SS w0 (sca a rv tv s2) rv tv tn tx s2 w11.drew) ∧ rowOf w11.drew a.p 0 20 = some (.agg (ca a.bu a.ini a.li a.rd)) ∧ w11.drew.cell? ⟨a.p, 29, none⟩ = some (.int .i64 wt) := keepT b2 (H11.out.no (Chg.refl No _).drew)
                go_region_held3 (fun w' => Hid (St a SS w0 (sca a rv tv s2) rv tv tn tx s2 w') ∧ rowOf w' a.p 0 20 = some (.agg (ca a.bu a.ini a.li a.rd)) ∧ w'.cell? ⟨a.p, 29, none⟩ = some (.int .i64 wt)) (first | exact hS | assumption | exact keepT2 b2 (by assumption) hc) (first | (go_at_call 66; refine (P.most_any a.bu a.ini a.li a.rd _).mono ?_; rintro e w12 ⟨rfl, hc⟩))
                rename_i hHeld
                have H12 := hHeld.1
                clear hHeld hS hc H11
                go_wp2_with fail
                refine (pods_any H12.out (sc21 a rv tv _)).mono ?_
                rintro e w13 ⟨rfl, hc13⟩
                have H13 := Lib.hid (H12.out.no hc13)
                clear H12 hc13
                go_wp2_with fail
                obtain ⟨C, hl, _⟩ := H13.out.life
                rw [b3] at hl
                refine (A.count_any w13 C a.l s1.pods _ hl (by omega)).mono ?_
                rintro e w14 ⟨rfl, hc14⟩
                have H14 := Lib.hid (H13.out.no hc14)
                clear H13 hl hc14
                have HT3 : Hid (V.tick3 s2 = { s2 with pods := (M.scale 100 s1.now s1.pods s1.made).1, made := (M.scale 100 s1.now s1.pods s1.made).2 }) := by
                  show _ = _
                  unfold V.tick3
                  rw [b1, b2, b3, b5, show (min wt 100).toNat = 100 by omega]
                by_cases hct : (100 : Nat) = M.count s1.pods
                · have kk : (((100 : Nat) : Int) != (M.count s1.pods : Int)) = false := by rw [hct]; simp
                  have H15 : Hid (St a SS w0 (sca a rv tv (V.tick3 s2)) rv tv tn tx (V.tick3 s2) w14) := by
                    rw [HT3.out, hct, scale_same, ← b3, ← b5]
                    exact H14.out
                  clear H14
                  skip
                  go_wp2_with fail
                  refine (sent_any H15.out HI3.out.send (by show s2.now ≤ _; omega) (by show s2.rs.length ≤ _; rw [b4]; omega) (by omega) (by omega)).mono ?_
                  rintro e w16 ⟨rfl, h16⟩
                  have H16 := Lib.hid h16
                  have HI4 := Lib.hid HI3.out.sent
                  have hn4 : (V.sent a.li (V.tick3 s2)).now = s1.now := by show s2.now = _; exact b1
                  have hl4 : (V.sent a.li (V.tick3 s2)).rs.length = s1.rs.length := by rw [V.sent_len]; show s2.rs.length = _; rw [b4]
                  clear H15 h16 HT3 HI3 HI2 HDC HPK
                  generalize V.sent a.li (V.tick3 s2) = s4 at *
                  obtain ⟨C, ⟨_, hot⟩, _⟩ := H16.out.trace
                  obtain ⟨vt, ct, htv⟩ := hot.sl
                  subst htv
                  clear hot
                  obtain ⟨_, hpl4, _⟩ := pods_small (n := s4.rs.length) HI4.out.pods (by have := HI4.out.load; omega) (by omega) (by omega) (by omega)
                  have hq4 := HI4.out.qlen
                  go_wp2_with fail
                  refine tik19_at (by kernel_rfl) a.p vt tn ct s4.now s4.want s4.ld.panic s4.proxy s4.pods.length s4.q.length (V.ends s4.rs 2) (V.ends s4.rs 0) (V.ends s4.rs 1) (V.ends s4.rs 2) (V.ends s4.rs 3) (V.ends s4.rs 4) (V.ends s4.rs 5) (V.ends s4.rs 6) (Xtr a SS w0 rv (.slice vt tn ct) tn tx s4 (fun x => (vcells s4.now s4.want s4.ld.panic s4.proxy x.1.1 s4.pods.length x.1.2 s4.q.length (V.ends s4.rs 2) (V.ends s4.rs)).toList)) (fun _ _ _ _ y => by rw [y.1.blk.cell]; exact sc33 _ _ _ _) (fun x w' y => ?_) (fun x _ y => Xtr.make (fun _ _ => rfl) x y) (fun x _ y => Xtr.app (fun _ _ => rfl) ht x y) (fun x _ y => Xtr.store x y) _ rfl rfl ((none, 0), 0, (none, 0)) ⟨H16.out.no (Chg.refl No _).drew, (fun h => by cases h), rfl⟩ fun x w17 h17 => ?_
                  · refine (see_any (s := s4) y.1 (by omega) (by omega) (by omega) HI4.out.rst).mono ?_
                    rintro e w'' ⟨va, ca', rfl, _, hc⟩
                    exact ⟨(va, ca'), rfl, y.1.no hc, (fun h => by cases h), rfl⟩
                  have H17 : Hid (St a SS w0 (sca a rv (.slice x.2.2.1 (tn + 1) x.2.2.2) s4) rv (.slice x.2.2.1 (tn + 1) x.2.2.2) (tn + 1) (tx ++ (vcells s4.now s4.want s4.ld.panic s4.proxy x.1.1 s4.pods.length x.1.2 s4.q.length (V.ends s4.rs 2) (V.ends s4.rs)).toList) s4 w17) := h17.1
                  clear h17 H16
                  simp only [lay_tik19, puts, List.setIfInBounds_toArray, List.set_cons_succ, List.set_cons_zero]
                  generalize tx ++ (vcells s4.now s4.want s4.ld.panic s4.proxy x.1.1 s4.pods.length x.1.2 s4.q.length (V.ends s4.rs 2) (V.ends s4.rs)).toList = tx2 at *
                  obtain ⟨⟨x1, x2⟩, x3, x4, x5⟩ := x
                  have c33 : w17.cell? ⟨a.p, 33, none⟩ = some (.slice x4 (tn + 1) x5) := by rw [H17.out.blk.cell]; exact sc33 _ _ _ _
                  have f33 := H17.out.blk.free 33
                  by_cases htn : tn = 1000
                  · subst htn
                    obtain ⟨C, ⟨_, hot⟩, _⟩ := H17.out.trace
                    obtain ⟨g9, o9, rfl, _, _, hcp, hcm⟩ := hot.some_ (by omega)
                    clear hot
                    go_wp2_with fail
                    go_returns
                    rw [HTK.out]
                    exact ⟨rfl, _, _, Nat.le_refl 1000, _, reslice H17.out⟩
                  · have k9 : decide (1000 < ((tn + 1 : Nat) : Int)) = false := decide_eq_false (by omega)
                    go_wp2
                    go_returns
                    rw [HTK.out]
                    exact ⟨rfl, _, _, by omega, _, H17.out⟩
                · have kk : (((100 : Nat) : Int) != (M.count s1.pods : Int)) = true := by
                    rw [bne_iff_ne]
                    omega
                  skip
                  go_wp2_with fail
                  refine tik17_at (by kernel_rfl) a.p a.l s1.now (100 : Nat) (fun _ b w' => St a SS w0 (sca a rv tv s2) rv tv tn tx (cond b (V.tick3 s2) s2) w') (fun _ _ y => by rw [y.blk.cell, ← b1]; exact sc20 _ _ _ _) (fun _ w' y => (pods_any y (sc21 a rv tv _)).mono fun e w'' ⟨h1, h2⟩ => ⟨h1, y.no h2⟩) (fun _ w' y => ?_) _ rfl rfl rfl () (H14.out.no (Chg.refl No _).drew) fun _ w15 h15 => ?_
                  · have y' : St a SS w0 (sca a rv tv s2) rv tv tn tx s2 w' := y
                    obtain ⟨C, hl, back⟩ := y'.life
                    rw [b3, b5] at hl
                    have hmd := HI1.out.pods.made
                    refine (A.scale_any w' C a.l s1.pods s1.made hl HPK.out 100 s1.now (by omega) hz1 (by omega) (by omega) hmd.1 (by omega)).mono fun e w'' ⟨h1, h2, h3⟩ => ⟨h1, ?_⟩
                    show St a SS w0 _ rv tv tn tx (V.tick3 s2) w''
                    rw [HT3.out]
                    exact back _ _ w'' h2 h3
                  · have H15 : Hid (St a SS w0 (sca a rv tv (V.tick3 s2)) rv tv tn tx (V.tick3 s2) w15) := h15
                    clear h15 H14
                    simp only [lay_tik17, puts, List.setIfInBounds_toArray, List.set_cons_succ, List.set_cons_zero]
                    generalize w15 = w14 at *
                    go_wp2_with fail
                    refine (sent_any H15.out HI3.out.send (by show s2.now ≤ _; omega) (by show s2.rs.length ≤ _; rw [b4]; omega) (by omega) (by omega)).mono ?_
                    rintro e w16 ⟨rfl, h16⟩
                    have H16 := Lib.hid h16
                    have HI4 := Lib.hid HI3.out.sent
                    have hn4 : (V.sent a.li (V.tick3 s2)).now = s1.now := by show s2.now = _; exact b1
                    have hl4 : (V.sent a.li (V.tick3 s2)).rs.length = s1.rs.length := by rw [V.sent_len]; show s2.rs.length = _; rw [b4]
                    clear H15 h16 HT3 HI3 HI2 HDC HPK
                    generalize V.sent a.li (V.tick3 s2) = s4 at *
                    obtain ⟨C, ⟨_, hot⟩, _⟩ := H16.out.trace
                    obtain ⟨vt, ct, htv⟩ := hot.sl
                    subst htv
                    clear hot
                    obtain ⟨_, hpl4, _⟩ := pods_small (n := s4.rs.length) HI4.out.pods (by have := HI4.out.load; omega) (by omega) (by omega) (by omega)
                    have hq4 := HI4.out.qlen
                    go_wp2_with fail
                    refine tik19_at (by kernel_rfl) a.p vt tn ct s4.now s4.want s4.ld.panic s4.proxy s4.pods.length s4.q.length (V.ends s4.rs 2) (V.ends s4.rs 0) (V.ends s4.rs 1) (V.ends s4.rs 2) (V.ends s4.rs 3) (V.ends s4.rs 4) (V.ends s4.rs 5) (V.ends s4.rs 6) (Xtr a SS w0 rv (.slice vt tn ct) tn tx s4 (fun x => (vcells s4.now s4.want s4.ld.panic s4.proxy x.1.1 s4.pods.length x.1.2 s4.q.length (V.ends s4.rs 2) (V.ends s4.rs)).toList)) (fun _ _ _ _ y => by rw [y.1.blk.cell]; exact sc33 _ _ _ _) (fun x w' y => ?_) (fun x _ y => Xtr.make (fun _ _ => rfl) x y) (fun x _ y => Xtr.app (fun _ _ => rfl) ht x y) (fun x _ y => Xtr.store x y) _ rfl rfl ((none, 0), 0, (none, 0)) ⟨H16.out.no (Chg.refl No _).drew, (fun h => by cases h), rfl⟩ fun x w17 h17 => ?_
                    · refine (see_any (s := s4) y.1 (by omega) (by omega) (by omega) HI4.out.rst).mono ?_
                      rintro e w'' ⟨va, ca', rfl, _, hc⟩
                      exact ⟨(va, ca'), rfl, y.1.no hc, (fun h => by cases h), rfl⟩
                    have H17 : Hid (St a SS w0 (sca a rv (.slice x.2.2.1 (tn + 1) x.2.2.2) s4) rv (.slice x.2.2.1 (tn + 1) x.2.2.2) (tn + 1) (tx ++ (vcells s4.now s4.want s4.ld.panic s4.proxy x.1.1 s4.pods.length x.1.2 s4.q.length (V.ends s4.rs 2) (V.ends s4.rs)).toList) s4 w17) := h17.1
                    clear h17 H16
                    simp only [lay_tik19, puts, List.setIfInBounds_toArray, List.set_cons_succ, List.set_cons_zero]
                    generalize tx ++ (vcells s4.now s4.want s4.ld.panic s4.proxy x.1.1 s4.pods.length x.1.2 s4.q.length (V.ends s4.rs 2) (V.ends s4.rs)).toList = tx2 at *
                    obtain ⟨⟨x1, x2⟩, x3, x4, x5⟩ := x
                    have c33 : w17.cell? ⟨a.p, 33, none⟩ = some (.slice x4 (tn + 1) x5) := by rw [H17.out.blk.cell]; exact sc33 _ _ _ _
                    have f33 := H17.out.blk.free 33
                    by_cases htn : tn = 1000
                    · subst htn
                      obtain ⟨C, ⟨_, hot⟩, _⟩ := H17.out.trace
                      obtain ⟨g9, o9, rfl, _, _, hcp, hcm⟩ := hot.some_ (by omega)
                      clear hot
                      go_wp2_with fail
                      go_returns
                      rw [HTK.out]
                      exact ⟨rfl, _, _, Nat.le_refl 1000, _, reslice H17.out⟩
                    · have k9 : decide (1000 < ((tn + 1 : Nat) : Int)) = false := decide_eq_false (by omega)
                      go_wp2
                      go_returns
                      rw [HTK.out]
                      exact ⟨rfl, _, _, by omega, _, H17.out⟩
              · obtain ⟨nn, hnn⟩ : ∃ nn : Nat, wt = nn := ⟨wt.toNat, by omega⟩
                rw [hnn] at b2 h100 hw2
                clear hnn
                go_wp2_with fail
                have hS : Hid (St a SS w0 (sca a rv tv s2) rv tv tn tx s2 w11.drew) ∧ rowOf w11.drew a.p 0 20 = some (.agg (ca a.bu a.ini a.li a.rd)) ∧ w11.drew.cell? ⟨a.p, 29, none⟩ = some (.int .i64 nn) := keepT b2 (H11.out.no (Chg.refl No _).drew)
                go_region_held3 (fun w' => Hid (St a SS w0 (sca a rv tv s2) rv tv tn tx s2 w') ∧ rowOf w' a.p 0 20 = some (.agg (ca a.bu a.ini a.li a.rd)) ∧ w'.cell? ⟨a.p, 29, none⟩ = some (.int .i64 nn)) (first | exact hS | assumption | exact keepT2 b2 (by assumption) hc) (first | (go_at_call 66; refine (P.most_any a.bu a.ini a.li a.rd _).mono ?_; rintro e w12 ⟨rfl, hc⟩))
                rename_i hHeld
                have H12 := hHeld.1
                clear hHeld hS hc H11
                go_wp2_with fail
                refine (pods_any H12.out (sc21 a rv tv _)).mono ?_
                rintro e w13 ⟨rfl, hc13⟩
                have H13 := Lib.hid (H12.out.no hc13)
                clear H12 hc13
                go_wp2_with fail
                obtain ⟨C, hl, _⟩ := H13.out.life
                rw [b3] at hl
                refine (A.count_any w13 C a.l s1.pods _ hl (by omega)).mono ?_
                rintro e w14 ⟨rfl, hc14⟩
                have H14 := Lib.hid (H13.out.no hc14)
                clear H13 hl hc14
                have HT3 : Hid (V.tick3 s2 = { s2 with pods := (M.scale nn s1.now s1.pods s1.made).1, made := (M.scale nn s1.now s1.pods s1.made).2 }) := by
                  show _ = _
                  unfold V.tick3
                  rw [b1, b2, b3, b5, show (min (nn : Int) 100).toNat = nn by omega]
                by_cases hct : (nn : Nat) = M.count s1.pods
                · have kk : (((nn : Nat) : Int) != (M.count s1.pods : Int)) = false := by rw [hct]; simp
                  have H15 : Hid (St a SS w0 (sca a rv tv (V.tick3 s2)) rv tv tn tx (V.tick3 s2) w14) := by
                    rw [HT3.out, hct, scale_same, ← b3, ← b5]
                    exact H14.out
                  clear H14
                  skip
                  go_wp2_with fail
                  refine (sent_any H15.out HI3.out.send (by show s2.now ≤ _; omega) (by show s2.rs.length ≤ _; rw [b4]; omega) (by omega) (by omega)).mono ?_
                  rintro e w16 ⟨rfl, h16⟩
                  have H16 := Lib.hid h16
                  have HI4 := Lib.hid HI3.out.sent
                  have hn4 : (V.sent a.li (V.tick3 s2)).now = s1.now := by show s2.now = _; exact b1
                  have hl4 : (V.sent a.li (V.tick3 s2)).rs.length = s1.rs.length := by rw [V.sent_len]; show s2.rs.length = _; rw [b4]
                  clear H15 h16 HT3 HI3 HI2 HDC HPK
                  generalize V.sent a.li (V.tick3 s2) = s4 at *
                  obtain ⟨C, ⟨_, hot⟩, _⟩ := H16.out.trace
                  obtain ⟨vt, ct, htv⟩ := hot.sl
                  subst htv
                  clear hot
                  obtain ⟨_, hpl4, _⟩ := pods_small (n := s4.rs.length) HI4.out.pods (by have := HI4.out.load; omega) (by omega) (by omega) (by omega)
                  have hq4 := HI4.out.qlen
                  go_wp2_with fail
                  refine tik19_at (by kernel_rfl) a.p vt tn ct s4.now s4.want s4.ld.panic s4.proxy s4.pods.length s4.q.length (V.ends s4.rs 2) (V.ends s4.rs 0) (V.ends s4.rs 1) (V.ends s4.rs 2) (V.ends s4.rs 3) (V.ends s4.rs 4) (V.ends s4.rs 5) (V.ends s4.rs 6) (Xtr a SS w0 rv (.slice vt tn ct) tn tx s4 (fun x => (vcells s4.now s4.want s4.ld.panic s4.proxy x.1.1 s4.pods.length x.1.2 s4.q.length (V.ends s4.rs 2) (V.ends s4.rs)).toList)) (fun _ _ _ _ y => by rw [y.1.blk.cell]; exact sc33 _ _ _ _) (fun x w' y => ?_) (fun x _ y => Xtr.make (fun _ _ => rfl) x y) (fun x _ y => Xtr.app (fun _ _ => rfl) ht x y) (fun x _ y => Xtr.store x y) _ rfl rfl ((none, 0), 0, (none, 0)) ⟨H16.out.no (Chg.refl No _).drew, (fun h => by cases h), rfl⟩ fun x w17 h17 => ?_
                  · refine (see_any (s := s4) y.1 (by omega) (by omega) (by omega) HI4.out.rst).mono ?_
                    rintro e w'' ⟨va, ca', rfl, _, hc⟩
                    exact ⟨(va, ca'), rfl, y.1.no hc, (fun h => by cases h), rfl⟩
                  have H17 : Hid (St a SS w0 (sca a rv (.slice x.2.2.1 (tn + 1) x.2.2.2) s4) rv (.slice x.2.2.1 (tn + 1) x.2.2.2) (tn + 1) (tx ++ (vcells s4.now s4.want s4.ld.panic s4.proxy x.1.1 s4.pods.length x.1.2 s4.q.length (V.ends s4.rs 2) (V.ends s4.rs)).toList) s4 w17) := h17.1
                  clear h17 H16
                  simp only [lay_tik19, puts, List.setIfInBounds_toArray, List.set_cons_succ, List.set_cons_zero]
                  generalize tx ++ (vcells s4.now s4.want s4.ld.panic s4.proxy x.1.1 s4.pods.length x.1.2 s4.q.length (V.ends s4.rs 2) (V.ends s4.rs)).toList = tx2 at *
                  obtain ⟨⟨x1, x2⟩, x3, x4, x5⟩ := x
                  have c33 : w17.cell? ⟨a.p, 33, none⟩ = some (.slice x4 (tn + 1) x5) := by rw [H17.out.blk.cell]; exact sc33 _ _ _ _
                  have f33 := H17.out.blk.free 33
                  by_cases htn : tn = 1000
                  · subst htn
                    obtain ⟨C, ⟨_, hot⟩, _⟩ := H17.out.trace
                    obtain ⟨g9, o9, rfl, _, _, hcp, hcm⟩ := hot.some_ (by omega)
                    clear hot
                    go_wp2_with fail
                    go_returns
                    rw [HTK.out]
                    exact ⟨rfl, _, _, Nat.le_refl 1000, _, reslice H17.out⟩
                  · have k9 : decide (1000 < ((tn + 1 : Nat) : Int)) = false := decide_eq_false (by omega)
                    go_wp2
                    go_returns
                    rw [HTK.out]
                    exact ⟨rfl, _, _, by omega, _, H17.out⟩
                · have kk : (((nn : Nat) : Int) != (M.count s1.pods : Int)) = true := by
                    rw [bne_iff_ne]
                    omega
                  skip
                  go_wp2_with fail
                  refine tik17_at (by kernel_rfl) a.p a.l s1.now (nn : Nat) (fun _ b w' => St a SS w0 (sca a rv tv s2) rv tv tn tx (cond b (V.tick3 s2) s2) w') (fun _ _ y => by rw [y.blk.cell, ← b1]; exact sc20 _ _ _ _) (fun _ w' y => (pods_any y (sc21 a rv tv _)).mono fun e w'' ⟨h1, h2⟩ => ⟨h1, y.no h2⟩) (fun _ w' y => ?_) _ rfl rfl rfl () (H14.out.no (Chg.refl No _).drew) fun _ w15 h15 => ?_
                  · have y' : St a SS w0 (sca a rv tv s2) rv tv tn tx s2 w' := y
                    obtain ⟨C, hl, back⟩ := y'.life
                    rw [b3, b5] at hl
                    have hmd := HI1.out.pods.made
                    refine (A.scale_any w' C a.l s1.pods s1.made hl HPK.out nn s1.now (by omega) hz1 (by omega) (by omega) hmd.1 (by omega)).mono fun e w'' ⟨h1, h2, h3⟩ => ⟨h1, ?_⟩
                    show St a SS w0 _ rv tv tn tx (V.tick3 s2) w''
                    rw [HT3.out]
                    exact back _ _ w'' h2 h3
                  · have H15 : Hid (St a SS w0 (sca a rv tv (V.tick3 s2)) rv tv tn tx (V.tick3 s2) w15) := h15
                    clear h15 H14
                    simp only [lay_tik17, puts, List.setIfInBounds_toArray, List.set_cons_succ, List.set_cons_zero]
                    generalize w15 = w14 at *
                    go_wp2_with fail
                    refine (sent_any H15.out HI3.out.send (by show s2.now ≤ _; omega) (by show s2.rs.length ≤ _; rw [b4]; omega) (by omega) (by omega)).mono ?_
                    rintro e w16 ⟨rfl, h16⟩
                    have H16 := Lib.hid h16
                    have HI4 := Lib.hid HI3.out.sent
                    have hn4 : (V.sent a.li (V.tick3 s2)).now = s1.now := by show s2.now = _; exact b1
                    have hl4 : (V.sent a.li (V.tick3 s2)).rs.length = s1.rs.length := by rw [V.sent_len]; show s2.rs.length = _; rw [b4]
                    clear H15 h16 HT3 HI3 HI2 HDC HPK
                    generalize V.sent a.li (V.tick3 s2) = s4 at *
                    obtain ⟨C, ⟨_, hot⟩, _⟩ := H16.out.trace
                    obtain ⟨vt, ct, htv⟩ := hot.sl
                    subst htv
                    clear hot
                    obtain ⟨_, hpl4, _⟩ := pods_small (n := s4.rs.length) HI4.out.pods (by have := HI4.out.load; omega) (by omega) (by omega) (by omega)
                    have hq4 := HI4.out.qlen
                    go_wp2_with fail
                    refine tik19_at (by kernel_rfl) a.p vt tn ct s4.now s4.want s4.ld.panic s4.proxy s4.pods.length s4.q.length (V.ends s4.rs 2) (V.ends s4.rs 0) (V.ends s4.rs 1) (V.ends s4.rs 2) (V.ends s4.rs 3) (V.ends s4.rs 4) (V.ends s4.rs 5) (V.ends s4.rs 6) (Xtr a SS w0 rv (.slice vt tn ct) tn tx s4 (fun x => (vcells s4.now s4.want s4.ld.panic s4.proxy x.1.1 s4.pods.length x.1.2 s4.q.length (V.ends s4.rs 2) (V.ends s4.rs)).toList)) (fun _ _ _ _ y => by rw [y.1.blk.cell]; exact sc33 _ _ _ _) (fun x w' y => ?_) (fun x _ y => Xtr.make (fun _ _ => rfl) x y) (fun x _ y => Xtr.app (fun _ _ => rfl) ht x y) (fun x _ y => Xtr.store x y) _ rfl rfl ((none, 0), 0, (none, 0)) ⟨H16.out.no (Chg.refl No _).drew, (fun h => by cases h), rfl⟩ fun x w17 h17 => ?_
                    · refine (see_any (s := s4) y.1 (by omega) (by omega) (by omega) HI4.out.rst).mono ?_
                      rintro e w'' ⟨va, ca', rfl, _, hc⟩
                      exact ⟨(va, ca'), rfl, y.1.no hc, (fun h => by cases h), rfl⟩
                    have H17 : Hid (St a SS w0 (sca a rv (.slice x.2.2.1 (tn + 1) x.2.2.2) s4) rv (.slice x.2.2.1 (tn + 1) x.2.2.2) (tn + 1) (tx ++ (vcells s4.now s4.want s4.ld.panic s4.proxy x.1.1 s4.pods.length x.1.2 s4.q.length (V.ends s4.rs 2) (V.ends s4.rs)).toList) s4 w17) := h17.1
                    clear h17 H16
                    simp only [lay_tik19, puts, List.setIfInBounds_toArray, List.set_cons_succ, List.set_cons_zero]
                    generalize tx ++ (vcells s4.now s4.want s4.ld.panic s4.proxy x.1.1 s4.pods.length x.1.2 s4.q.length (V.ends s4.rs 2) (V.ends s4.rs)).toList = tx2 at *
                    obtain ⟨⟨x1, x2⟩, x3, x4, x5⟩ := x
                    have c33 : w17.cell? ⟨a.p, 33, none⟩ = some (.slice x4 (tn + 1) x5) := by rw [H17.out.blk.cell]; exact sc33 _ _ _ _
                    have f33 := H17.out.blk.free 33
                    by_cases htn : tn = 1000
                    · subst htn
                      obtain ⟨C, ⟨_, hot⟩, _⟩ := H17.out.trace
                      obtain ⟨g9, o9, rfl, _, _, hcp, hcm⟩ := hot.some_ (by omega)
                      clear hot
                      go_wp2_with fail
                      go_returns
                      rw [HTK.out]
                      exact ⟨rfl, _, _, Nat.le_refl 1000, _, reslice H17.out⟩
                    · have k9 : decide (1000 < ((tn + 1 : Nat) : Int)) = false := decide_eq_false (by omega)
                      go_wp2
                      go_returns
                      rw [HTK.out]
                      exact ⟨rfl, _, _, by omega, _, H17.out⟩
end Go.Proofs.YtdgphoemjeakaaaGreatDoor.Y
