/- The whole service: what holds of it all the time; arrive. The whole service: finish, Requests. -/
import Derived.Test.YtdgphoemjeakaaaGreatDoorR27
namespace Go.Proofs.YtdgphoemjeakaaaGreatDoor.Y
open Rg
open Go.RowKit K P U Mg Wk
set_option maxRecDepth 100000
structure Inv (a : At) (s : V.Sys) : Prop where
  may : mayB a.v = true
  exv : a.E.ex → a.v = vdef
  dv : a.dv = a.v
  dp : a.dp = a.v 15
  pl : V.Pl s.now s.made s.q s.pods s.rs
  ql : s.ql ≤ s.now
  dec : a.E.ok s.now (dOf s)
  lost : 0 ≤ s.lost ∧ s.lost ≤ 1000
  zs : -1 ≤ s.zs ∧ s.zs ≤ s.now
theorem Inv.turn {a : At} {s : V.Sys} (h : Inv a s) {q : List (Int × Int)} {ps : List M.Pod} {rs : List V.Req} (pl : V.Pl s.now s.made q ps rs) : Inv a { s with q := q, pods := ps, rs := rs } := ⟨h.may, h.exv, h.dv, h.dp, pl, h.ql, h.dec, h.lost, h.zs⟩
theorem sent_eq {s : V.Sys} {q : List (Int × Int)} {ps : List M.Pod} {rs : List V.Req} (h : V.sentGo 10 s.now s.q s.pods s.rs = (q, ps, rs)) : V.sent 10 s = { s with q := q, pods := ps, rs := rs } := by
  unfold V.sent
  rw [h]
theorem sc_set22 (a : At) (rv rv' tv : Value) (s : V.Sys) : (sca a rv tv s).setIfInBounds 22 rv' = sca a rv' tv s := by kernel_rfl
def came (s : V.Sys) : V.Req := ⟨s.now, s.now, 1, -1⟩
section
variable {a : At} {S : Nat → Prop} {w0 : World} {rv tv : Value} {tn : Nat} {tx : List Value} {s : V.Sys} {w : World}
def Xarr (a : At) (S : Nat → Prop) (w0 : World) (rv tv : Value) (tn : Nat) (tx : List Value) (s : V.Sys) (x : Nat × (Option Addr × Nat)) (b0 b1 b2 : Bool) (w : World) : Prop :=
  St a S w0 (sca a (cond b2 (.slice x.2.1 (s.rs.length + 1) x.2.2) rv) tv s) (cond b1 (.slice x.2.1 (s.rs.length + 1) x.2.2) rv) tv tn tx (cond b1 { s with rs := s.rs ++ [came s] } s) w ∧ (b0 = true → b1 = false → Blk w x.1 (rcells (came s)).toArray 48)
theorem Xarr.make (x : Nat × (Option Addr × Nat)) (h : Xarr a S w0 rv tv tn tx s x false false false w) : Xarr a S w0 rv tv tn tx s (w.heap.size, x.2) true false false (w.alloc (.cells #[.int .i64 s.now, .int .i64 s.now, .int .i64 1, .int .i64 (-1)] 48)) :=
  ⟨h.1.no ((Chg.refl No w).alloc _), fun _ _ => Blk.new w _ _⟩
theorem Xarr.app (hn : s.rs.length ≤ 1000000) {va : Option Addr} {c : Nat} (x : Nat × (Option Addr × Nat)) (h : Xarr a S w0 (.slice va s.rs.length c) tv tn tx s x true false false w) : ∃ (C : Nat → Prop) (xs : List Value), Own w C 48 4 (.slice va s.rs.length c) s.rs.length xs ∧ (∀ j u, ([.int .i64 s.now, .int .i64 s.now, .int .i64 1, .int .i64 (-1)] : List Value)[j]? = some u → w.cell? ((⟨x.1, 0, none⟩ : Addr).add j) = some u) ∧ s.rs.length + 1 ≤ maxLen ∧ (s.rs.length + 1) * 32 ≤ 140737488355328 ∧ ∀ g' o' c' w', Own w' (nx C w w') 48 4 (.slice (some ⟨g', o', none⟩) (s.rs.length + 1) c') (s.rs.length + 1) (xs ++ [.int .i64 s.now, .int .i64 s.now, .int .i64 1, .int .i64 (-1)]) → Chg C w w' → Xarr a S w0 (.slice va s.rs.length c) tv tn tx s (x.1, (some ⟨g', o', none⟩, c')) true true false w' := by
  obtain ⟨h1, h2⟩ := h
  have hb := h2 rfl rfl
  obtain ⟨C, ⟨hbd, ho⟩, back⟩ := h1.req
  refine ⟨C, _, ho, fun j u hu => ?_, by simp only [maxLen]; omega, by omega, fun g' o' c' w' ho' hc' => ⟨?_, fun _ h => by cases h⟩⟩
  · rw [Addr.add_lit, Nat.zero_add, hb.cell, ← Array.getElem?_toList]
    exact hu
  · refine back (.slice (some ⟨g', o', none⟩) (s.rs.length + 1) c') (s.rs ++ [came s]) w' ⟨fun k hk => hk.2, ?_⟩ hc'
    rw [List.length_append, reqs_snoc]
    exact ho'
theorem Xarr.store {va : Option Addr} {c : Nat} (x : Nat × (Option Addr × Nat)) (h : Xarr a S w0 (.slice va s.rs.length c) tv tn tx s x true true false w) : ∃ u0, w.cell? ⟨a.p, 22, none⟩ = some u0 ∧ w.frozen? ⟨a.p, 22, none⟩ = false ∧ Xarr a S w0 (.slice va s.rs.length c) tv tn tx s x true true true (w.setCell ⟨a.p, 22, none⟩ (.slice x.2.1 (s.rs.length + 1) x.2.2)) := by
  have h1 := h.1
  refine ⟨_, by rw [h1.blk.cell]; exact sc22 _ _ _ _, h1.blk.free 22, ?_, fun _ h => by cases h⟩
  have h2 := h1.cell 22 (.slice x.2.1 (s.rs.length + 1) x.2.2)
  rw [show (sca a (cond false (.slice x.2.1 (s.rs.length + 1) x.2.2) (.slice va s.rs.length c)) tv s).setIfInBounds 22 (.slice x.2.1 (s.rs.length + 1) x.2.2) = sca a (.slice x.2.1 (s.rs.length + 1) x.2.2) tv s from sc_set22 _ _ _ _ _] at h2
  exact h2
end
set_option maxHeartbeats 8000000 in
theorem arrive_any {a : At} {S : Nat → Prop} {w0 : World} {rv tv : Value} {tn : Nat} {tx : List Value} {s : V.Sys} {w : World} (h : St a S w0 (sca a rv tv s) rv tv tn tx s w) (inv : Inv a s) (n1 : s.now ≤ 1000000) (hr : s.rs.length + 1 ≤ 1000000) :
    Calls Tryz.prog 27 #[.pointer (some ⟨a.p, 0, none⟩)] w fun e w' => e = .returned (.tuple #[]) ∧ ∃ (rv' : Value) (s' : V.Sys), Inv a s' ∧ s'.now = s.now ∧ s'.rs.length = s.rs.length + 1 ∧ (a.E.ex → V.arrive 10 s = s') ∧ St a S w0 (sca a rv' tv s') rv' tv tn tx s' w' := by
  have hz := inv.pl.now0
  have hql := inv.ql
  have hdp := inv.dp
  obtain ⟨-, -, -, -, -, -, -, -, -, -, -, ⟨d0, d1⟩, -⟩ := may_bd inv.may
  have HI := Lib.hid inv
  obtain ⟨C0, ho0⟩ := h.rq
  obtain ⟨va, cap, rfl⟩ := ho0.sl
  have c22 : w.cell? ⟨a.p, 22, none⟩ = some (.slice va s.rs.length cap) := by rw [h.blk.cell, sc22]
  have H := Lib.hid h
  clear h inv ho0
  go_enter Tryz.func27, Tryz.ntmps27
  go_wp2_with fail
  refine arr1_at (by kernel_rfl) a.p va s.rs.length cap s.now (Xarr a S w0 (.slice va s.rs.length cap) tv tn tx s) (fun _ _ _ y => by rw [y.1.blk.cell]; exact sc22 _ _ _ _) (fun _ _ y => by rw [y.1.blk.cell]; exact sc20 _ _ _ _) (fun x _ y => Xarr.make x y) (fun x _ y => Xarr.app (by omega) x y) (fun x _ y => Xarr.store x y) _ rfl rfl (0, none, 0) ⟨H.out.no (Chg.refl No _).drew, fun h _ => by cases h⟩ fun x w1 h1 => ?_
  have H1 : Hid (St a S w0 (sca a (.slice x.2.1 (s.rs.length + 1) x.2.2) tv s) (.slice x.2.1 (s.rs.length + 1) x.2.2) tv tn tx { s with rs := s.rs ++ [came s] } w1) := h1.1
  clear h1 H c22
  simp only [lay_arr1, puts, List.setIfInBounds_toArray, List.set_cons_succ, List.set_cons_zero]
  generalize hrv : Value.slice x.2.1 (s.rs.length + 1) x.2.2 = rv at *
  clear hrv
  have hlen : (s.rs ++ [came s]).length = s.rs.length + 1 := by simp
  by_cases hq : a.v 15 ≤ (s.q.length : Nat)
  · have HEC : Hid (a.E.ex → V.come s = { s with rs := s.rs ++ [⟨s.now, s.now, 5, -1⟩] }) := fun hx => by
      have e : a.v 15 = 100 := by rw [HI.out.exv hx]; rfl
      unfold V.come
      rw [if_pos (by omega)]
    go_wp2_with fail
    refine arr2_at (by kernel_rfl) a.p a.q s.rs.length s.now 6 (fun _ _ w' => St a S w0 (sca a rv tv s) rv tv tn tx { s with rs := s.rs ++ [came s] } w') (fun _ _ y => by rw [y.blk.cell]; exact sc20 _ _ _ _) (fun _ w' y => (waits_any y (sc21 a rv tv s)).mono fun e w'' ⟨h1, h2⟩ => ⟨h1, y.no h2⟩) (fun _ w' y => ?_) _ rfl rfl rfl () (H1.out.no (Chg.refl No _).drew) fun _ w2 h2 => ?_
    · obtain ⟨C, hl, _⟩ := y.queue
      exact (B.put_full w' C a.q s.q a.dp s.ql s.rs.length s.now hl (by omega) hql (by omega)).mono fun e w'' ⟨h1, h2⟩ => ⟨h1, y.no h2⟩
    · obtain ⟨g, o, c, hrv⟩ := h2.rform (by show 0 < (s.rs ++ [came s]).length; omega)
      have hrv' : rv = .slice (some ⟨g, o, none⟩) (s.rs.length + 1) c := by rw [hrv]; show Value.slice _ (s.rs ++ [came s]).length _ = _; rw [hlen]
      have c22 : w2.cell? ⟨a.p, 22, none⟩ = some (.slice (some ⟨g, o, none⟩) (s.rs.length + 1) c) := by rw [h2.blk.cell, sc22, hrv']
      have hat : (s.rs ++ [came s])[s.rs.length]? = some (came s) := by rw [List.getElem?_append_right (Nat.le_refl _)]; simp
      obtain ⟨⟨u0, k1⟩, k2, k3⟩ := h2.reqSetV hrv' hlen.symm (k := s.rs.length) (j := 2) (u := .int .i64 5) (q' := ⟨s.now, s.now, 5, -1⟩) hat (by decide) rfl
      have e1 : (s.rs ++ [came s]).set s.rs.length ⟨s.now, s.now, 5, -1⟩ = s.rs ++ [⟨s.now, s.now, 5, -1⟩] := by rw [List.set_append_right _ _ (Nat.le_refl _)]; simp
      have H3 : Hid (St a S w0 (sca a rv tv s) rv tv tn tx { s with rs := s.rs ++ [⟨s.now, s.now, 5, -1⟩] } (w2.setCell ⟨g, o + s.rs.length * 4 + 2, none⟩ (.int .i64 5))) := by
        have k4 : St a S w0 (sca a rv tv s) rv tv tn tx { s with rs := (s.rs ++ [came s]).set s.rs.length ⟨s.now, s.now, 5, -1⟩ } _ := k3
        rw [e1] at k4
        exact k4
      clear h2 k3 hat hrv hrv' H1
      simp only [lay_arr2, puts, List.setIfInBounds_toArray, List.set_cons_succ, List.set_cons_zero]
      go_wp2_with fail
      refine (sent_any (s := { s with rs := s.rs ++ [⟨s.now, s.now, 5, -1⟩] }) H3.out HI.out.may HI.out.exv HI.out.pl.refuse n1 (by show (s.rs ++ [_]).length ≤ _; simp; omega)).mono ?_
      rintro e w4 ⟨rfl, q4, ps4, rs4, p4, l4, x4, h4⟩
      have H4 := Lib.hid (And.intro p4 (And.intro l4 (And.intro x4 h4)))
      clear p4 l4 x4 h4
      go_wp2_with fail
      go_returns
      obtain ⟨p4, l4, x4, h4⟩ := H4.out
      refine ⟨rfl, rv, { s with q := q4, pods := ps4, rs := rs4 }, HI.out.turn p4, rfl, by show rs4.length = _; rw [l4]; simp, fun hx => ?_, h4⟩
      unfold V.arrive
      rw [HEC.out hx]
      exact sent_eq (x4 hx)
  · have HEC : Hid (a.E.ex → V.come s = { s with rs := s.rs ++ [came s], q := s.q ++ [((s.rs.length : Int), s.now)], ql := s.now }) := fun hx => by
      have e : a.v 15 = 100 := by rw [HI.out.exv hx]; rfl
      unfold V.come
      rw [if_neg (by omega)]
      rfl
    go_wp2_with fail
    refine arr2_at (by kernel_rfl) a.p a.q s.rs.length s.now 0 (fun _ b w' => St a S w0 (sca a rv tv s) rv tv tn tx (cond b { s with rs := s.rs ++ [came s], q := s.q ++ [((s.rs.length : Int), s.now)], ql := s.now } { s with rs := s.rs ++ [came s] }) w') (fun _ _ y => by rw [y.blk.cell]; exact sc20 _ _ _ _) (fun _ w' y => (waits_any y (sc21 a rv tv s)).mono fun e w'' ⟨h1, h2⟩ => ⟨h1, y.no h2⟩) (fun _ w' y => ?_) _ rfl rfl rfl () (H1.out.no (Chg.refl No _).drew) fun _ w2 h2 => ?_
    · obtain ⟨C, hl, back⟩ := y.queue
      exact (B.put_yes w' C a.q s.q a.dp s.ql s.rs.length s.now hl (by omega) hql (by omega) (by omega)).mono fun e w'' ⟨h1, h2, h3⟩ => ⟨h1, back _ _ w'' h2 h3⟩
    · have H3 : Hid (St a S w0 (sca a rv tv s) rv tv tn tx { s with rs := s.rs ++ [came s], q := s.q ++ [((s.rs.length : Int), s.now)], ql := s.now } w2) := h2
      clear h2 H1
      simp only [lay_arr2, puts, List.setIfInBounds_toArray, List.set_cons_succ, List.set_cons_zero]
      go_wp2_with fail
      refine (sent_any (s := { s with rs := s.rs ++ [came s], q := s.q ++ [((s.rs.length : Int), s.now)], ql := s.now }) H3.out HI.out.may HI.out.exv (HI.out.pl.push (by omega)) n1 (by show (s.rs ++ [_]).length ≤ _; simp; omega)).mono ?_
      rintro e w4 ⟨rfl, q4, ps4, rs4, p4, l4, x4, h4⟩
      have H4 := Lib.hid (And.intro p4 (And.intro l4 (And.intro x4 h4)))
      clear p4 l4 x4 h4
      go_wp2_with fail
      go_returns
      obtain ⟨p4, l4, x4, h4⟩ := H4.out
      refine ⟨rfl, rv, { s with q := q4, pods := ps4, rs := rs4, ql := s.now }, ⟨HI.out.may, HI.out.exv, HI.out.dv, HI.out.dp, p4, Int.le_refl _, HI.out.dec, HI.out.lost, HI.out.zs⟩, rfl, by show rs4.length = _; rw [l4]; simp, fun hx => ?_, h4⟩
      unfold V.arrive
      rw [HEC.out hx]
      exact sent_eq (x4 hx)
end Go.Proofs.YtdgphoemjeakaaaGreatDoor.Y
namespace Go.Proofs.YtdgphoemjeakaaaGreatDoor.Y
open Rg
open Go.RowKit K P U Mg Wk
set_option maxRecDepth 100000
theorem flyFrom_at : ∀ (l : List V.Req) (k : Nat) (x : Int), x ∈ V.flyFrom k l → ∃ j : Nat, x = (k : Int) + j ∧ ∃ r, l[j]? = some r ∧ r.st = 2
  | [], _, _, h => by simp [V.flyFrom] at h
  | r :: l, k, x, h => by
    have step : x ∈ V.flyFrom (k + 1) l → ∃ j : Nat, x = (k : Int) + j ∧ ∃ q, (r :: l)[j]? = some q ∧ q.st = 2 := fun h => by
      obtain ⟨j, h1, q, h2, h3⟩ := flyFrom_at l (k + 1) x h
      exact ⟨j + 1, by omega, q, by simpa using h2, h3⟩
    simp only [V.flyFrom] at h
    split at h
    · rename_i h2
      rcases List.mem_cons.1 h with rfl | h
      · exact ⟨0, by simp, r, rfl, by simpa using h2⟩
      · exact step h
    · exact step h
theorem St.reqCell {a : At} {S : Nat → Prop} {w0 : World} {cs : Array Value} {rv tv : Value} {tn : Nat} {tx : List Value} {s : V.Sys} {w : World} {g o n c : Nat} (h : St a S w0 cs rv tv tn tx s w) (hv : rv = .slice (some ⟨g, o, none⟩) n c) (hn : n = s.rs.length) {k j : Nat} {q : V.Req} (hq : s.rs[k]? = some q) (hj : j < 4) : w.cell? ⟨g, o + k * 4 + j, none⟩ = (rcells q)[j]? := by
  subst hv
  subst hn
  obtain ⟨C, ho⟩ := h.rq
  have hk : k < s.rs.length := (List.getElem?_eq_some_iff.1 hq).1
  have hcell := ho.cellAt (k * 4 + j) (by omega)
  rw [reqs_at _ _ _ _ hq hj, ← Nat.add_assoc] at hcell
  exact hcell
set_option maxHeartbeats 8000000 in
theorem finish_any {a : At} {S : Nat → Prop} {w0 : World} {rv tv : Value} {tn : Nat} {tx : List Value} {s : V.Sys} {w : World} (h : St a S w0 (sca a rv tv s) rv tv tn tx s w) (inv : Inv a s) (n1 : s.now ≤ 1000000) (hr : s.rs.length ≤ 1000000) (nn : Nat) :
    Calls Tryz.prog 28 #[.pointer (some ⟨a.p, 0, none⟩), .int .i64 nn] w fun e w' => ∃ (c : Int) (s' : V.Sys), e = .returned (.int .i64 c) ∧ Inv a s' ∧ s'.now = s.now ∧ s'.rs.length = s.rs.length ∧ (a.E.ex → V.finish 10 nn s = (c, s')) ∧ St a S w0 (sca a rv tv s') rv tv tn tx s' w' := by
  obtain ⟨C0, ho0⟩ := h.rq
  have hb0 := h.blk
  have HF := Lib.hid (flying_c a.p rv s.rs w C0 _ hb0 (sc22 a rv tv s) ho0 (by omega))
  have H := Lib.hid h
  have HI := Lib.hid inv
  clear h inv hb0 ho0
  obtain ⟨fl, hfl⟩ : ∃ fl, V.flying s.rs = fl := ⟨_, rfl⟩
  rw [hfl] at HF
  go_enter Tryz.func28, Tryz.ntmps28
  go_wp2_with fail
  refine HF.out.mono ?_
  rintro e w1 ⟨v, rfl, ho, hc⟩
  obtain ⟨vl, cl, rfl⟩ := ho.sl
  have HB := Lib.hid (H.out.base hc)
  have C1 := Lib.hid hc
  have HO := Lib.hid ho
  have HDIS : Hid (∀ k, New w k → K.nx S w0 w k → False) := fun k h1 h2 => by have := h2.2; unfold New at h1; omega
  clear ho hc HF
  have HFL := Lib.hid hfl
  by_cases hn : nn < fl.length
  · have k1 : decide ((fl.length : Int) ≤ nn) = false := decide_eq_false (by omega)
    obtain ⟨kk, hkk⟩ : ∃ kk, fl[nn]? = some kk := ⟨fl[nn], List.getElem?_eq_getElem hn⟩
    obtain ⟨kx, hkx0, q, hq, hq2⟩ := flyFrom_at s.rs 0 kk (by rw [show V.flyFrom 0 s.rs = fl from hfl]; exact List.mem_of_getElem? hkk)
    obtain rfl : kk = kx := by omega
    have hkx : kx < s.rs.length := (List.getElem?_eq_some_iff.1 hq).1
    have HPL := Lib.hid (HI.out.pl.leave hq hq2)
    have ef : V.finish 10 nn s = (0, V.sent 10 { s with rs := V.stand s.now 3 s.rs kx, pods := (M.leave s.pods q.pod).2 }) := by
      unfold V.finish
      rw [hfl, hkk]
      simp only [Int.toNat_natCast]
      have : s.rs.getD kx ⟨0, 0, 0, 0⟩ = q := by
        rw [List.getD, hq]; rfl
      rw [this]
    have HEF := Lib.hid ef
    have HQ := Lib.hid hq
    have HKK := Lib.hid hkk
    clear ef hq hkk hfl hkx0 hq2
    obtain ⟨g5, o5, rfl, _, _, _, _⟩ := HO.out.some_ (by omega)
    have e0 : w1.cell? ⟨g5, o5 + nn, none⟩ = some (.int .i64 kx) := by
      rw [HO.out.cellAt nn (by omega), List.getElem?_map, HKK.out]; rfl
    go_wp2_with fail
    refine (stand_any HB.out (sc22 a rv tv s) (sc20 a rv tv s) kx hkx (by omega) 3).mono ?_
    rintro e w2 ⟨rfl, h2⟩
    have H2 := Lib.hid h2
    clear h2 HB e0
    have hsl : (V.stand s.now 3 s.rs kx).length = s.rs.length := V.stand_len ..
    obtain ⟨g6, o6, c6, hrv⟩ := H2.out.rform (by show 0 < (V.stand s.now 3 s.rs kx).length; omega)
    have hrv' : rv = .slice (some ⟨g6, o6, none⟩) s.rs.length c6 := by rw [hrv]; show Value.slice _ (V.stand s.now 3 s.rs kx).length _ = _; rw [hsl]
    have HRV := Lib.hid hrv'
    have hq2 : (V.stand s.now 3 s.rs kx)[kx]? = some { q with st := 3, since := s.now } := by
      unfold V.stand
      rw [Int.toNat_natCast, modify_at _ _ _ _ HQ.out, List.getElem?_set_self hkx]
    have HQ2 := Lib.hid hq2
    obtain ⟨OK, hps, _⟩ := pods_small (n := s.rs.length) HI.out.pl.ok.pods (by have := HI.out.pl.ok.load; omega) hr (by decide) n1
    have HOK := Lib.hid OK
    clear hrv hrv' hq2 OK hps
    go_wp2_with fail
    refine fin5_at (by kernel_rfl) a.p g6 o6 s.rs.length c6 g5 o5 fl.length cl a.l nn kx q.pod (M.leave s.pods q.pod).1 (fun _ b w' => St a (K.nx S w0 w) w1 (sca a rv tv s) rv tv tn tx (cond b { s with rs := V.stand s.now 3 s.rs kx, pods := (M.leave s.pods q.pod).2 } { s with rs := V.stand s.now 3 s.rs kx }) w') hkx hn
      (fun _ _ y => by rw [y.blk.cell, sc22, HRV.out]) (fun _ w' y => by rw [(HO.out.chg y.2 HDIS.out).cellAt nn (by omega), List.getElem?_map, HKK.out]; rfl) (fun _ w' y => ?_) (fun _ w' y => (pods_any y (sc21 a rv tv s)).mono fun e w'' ⟨h1, h2⟩ => ⟨h1, y.no h2⟩) (fun _ w' y => ?_) _ rfl rfl rfl rfl () (H2.out.no (Chg.refl No _).drew) fun _ w3 h3 => ?_
    · have y' : St a (K.nx S w0 w) w1 (sca a rv tv s) rv tv tn tx { s with rs := V.stand s.now 3 s.rs kx } w' := y
      exact y'.reqCell (j := 3) (q := { q with st := 3, since := s.now }) HRV.out hsl.symm HQ2.out (by decide)
    · obtain ⟨C, hl, back⟩ := y.life
      exact (A.leave_any w' C a.l s.pods s.made hl HOK.out q.pod).mono fun e w'' ⟨h1, h2, h3⟩ => ⟨h1, back _ s.made w'' (LifeR.wide.nx' LifeR.good h2) h3⟩
    · have H3 : Hid (St a S w0 (sca a rv tv { s with rs := V.stand s.now 3 s.rs kx, pods := (M.leave s.pods q.pod).2 }) rv tv tn tx { s with rs := V.stand s.now 3 s.rs kx, pods := (M.leave s.pods q.pod).2 } w3) := H.out.rebase C1.out h3
      clear h3 H2
      simp only [lay_fin5, puts, List.setIfInBounds_toArray, List.set_cons_succ, List.set_cons_zero]
      go_wp2_with fail
      refine (sent_any (s := { s with rs := V.stand s.now 3 s.rs kx, pods := (M.leave s.pods q.pod).2 }) H3.out HI.out.may HI.out.exv HPL.out n1 (by show (V.stand s.now 3 s.rs kx).length ≤ _; omega)).mono ?_
      rintro e w4 ⟨rfl, q4, ps4, rs4, p4, l4, x4, h4⟩
      have H4 := Lib.hid (And.intro p4 (And.intro l4 (And.intro x4 h4)))
      clear p4 l4 x4 h4
      go_wp2_with fail
      go_returns
      obtain ⟨p4, l4, x4, h4⟩ := H4.out
      exact ⟨_, { s with q := q4, pods := ps4, rs := rs4 }, rfl, HI.out.turn p4, rfl, l4.trans hsl, fun hx => by rw [HEF.out, sent_eq (x4 hx)], h4⟩
  · have k1 : decide ((fl.length : Int) ≤ nn) = true := decide_eq_true (by omega)
    have ef : V.finish 10 nn s = (7, s) := by
      unfold V.finish
      rw [hfl, List.getElem?_eq_none (by omega)]
    have HEF := Lib.hid ef
    have H1 := Lib.hid (H.out.no C1.out)
    clear ef HB HO hfl
    go_wp2
    go_returns
    exact ⟨_, s, rfl, HI.out, rfl, rfl, fun _ => HEF.out, H1.out⟩
theorem reqs_one (l : List V.Req) : ∀ u ∈ reqs l, u.oneCell' = true := by
  intro u hu
  obtain ⟨q, _, h⟩ := List.mem_flatMap.1 hu
  exact rcells_one q u h
set_option maxHeartbeats 1000000 in
theorem requests_any {a : At} {S : Nat → Prop} {w0 : World} {rv tv : Value} {tn : Nat} {tx : List Value} {s : V.Sys} {w : World} (h : St a S w0 (sca a rv tv s) rv tv tn tx s w) (hr : s.rs.length ≤ 1000000) :
    Calls Tryz.prog 14 #[.pointer (some ⟨a.p, 0, none⟩)] w fun e w' => ∃ v, e = .returned v ∧ Own w' (New w) 48 4 v s.rs.length (reqs s.rs) ∧ Chg No w w' := by
  obtain ⟨C0, ho0⟩ := h.rq
  have HC := Lib.hid (clone_reqs w C0 rv s.rs.length (reqs s.rs) ho0 (by omega) (reqs_one s.rs))
  have c22 : w.cell? ⟨a.p, 22, none⟩ = some rv := by rw [h.blk.cell, sc22]
  clear h ho0
  go_enter Tryz.func14, Tryz.ntmps14
  go_wp2_with fail
  refine HC.out.mono ?_
  rintro e w1 ⟨v, rfl, ho, hc⟩
  have HO := Lib.hid ho
  have C1 := Lib.hid hc
  clear ho hc
  go_wp2_with fail
  go_ret
  exact ⟨_, rfl, HO.out, C1.out⟩
end Go.Proofs.YtdgphoemjeakaaaGreatDoor.Y
