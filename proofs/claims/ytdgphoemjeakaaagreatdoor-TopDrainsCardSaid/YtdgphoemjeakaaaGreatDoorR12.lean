/- Package life: Leave. Package life: next, Ripe, at. Package life: Scale, New. -/
import Derived.Test.YtdgphoemjeakaaaGreatDoorR11
import Derived.Test.YtdgphoemjeakaaaGreatDoorR05
import Derived.Deep.RegionHeldLaw
namespace Go.Proofs.YtdgphoemjeakaaaGreatDoor.A
open Go.RowKit Go.Shelf K
open M (Pod)
set_option maxRecDepth 100000
theorem map_erase {α β : Type} (f : α → β) (l : List α) (k : Nat) : (l.map f).eraseIdx k = (l.eraseIdx k).map f := by
  rw [List.eraseIdx_eq_take_drop_succ, List.eraseIdx_eq_take_drop_succ, List.map_append, List.map_take, List.map_drop]
theorem LifeV.erase {w w' : World} {S : Nat → Prop} {p : Nat} {v v' : Value} {es : List (Nat × Pod)} {made : Int} (h : LifeV w S p v es made) {k : Nat} (hk : k < es.length) (own : Own w' (Arr w S) 20 1 v' (es.length - 1) ((es.map fun x => Value.iface 96 (ref x)).eraseIdx k)) (c : Chg (Arr w S) w w') :
    LifeV (w'.setCell ⟨p, 0, none⟩ v') S p v' (es.eraseIdx k) made := by
  have hb := h.blk.chg c (h.blk.no_arr (by decide))
  have e1 : (es.map fun x => Value.iface 96 (ref x)).eraseIdx k = (es.eraseIdx k).map fun x => Value.iface 96 (ref x) := map_erase _ _ _
  refine ⟨fun k hk => by have := h.bd k hk; have := c.size; simp [World.setCell]; omega, h.own, hb.set 0 v', ?_, ?_, fun x hx => ?_⟩
  · rw [List.length_eraseIdx_of_lt hk, ← e1]
    exact (own.mono fun _ _ h => h.1).other hb (by decide) v'
  · rw [← map_erase]
    exact h.nodup.sublist (List.eraseIdx_sublist _ _)
  · obtain ⟨h1, h2⟩ := h.pods x (List.mem_of_mem_eraseIdx hx)
    exact ⟨h1, (h2.chg c (h2.no_arr (by decide))).other (h2.ne h.blk (by decide)) v'⟩
theorem ifaces_one (es : List (Nat × Pod)) : ∀ u, u ∈ (es.map fun x => Value.iface 96 (ref x)) → u.oneCell' = true := by
  intro u hu
  obtain ⟨x, _, rfl⟩ := List.mem_map.1 hu
  rfl
set_option maxHeartbeats 2000000 in
theorem leave_any (w : World) (S : Nat → Prop) (p : Nat) (ps : List Pod) (made : Int) (h : Life w S p ps made) (ok : M.Ok ps) (id : Int) :
    Calls Tryz.prog 54 #[.pointer (some ⟨p, 0, none⟩), .int .i64 id] w fun e w' => e = .returned (.int .i64 (M.leave ps id).1) ∧ Life w' S p (M.leave ps id).2 made ∧ Chg S w w' := by
  obtain ⟨v, es, h, rfl⟩ := h
  obtain ⟨hn, ok⟩ := ok
  rw [List.length_map] at hn
  have HA := Lib.hid (at_any w S p v es made h hn id)
  have H := Lib.hid h
  have OK := Lib.hid ok
  clear h ok
  go_enter Tryz.func54, Tryz.ntmps54
  go_wp2_with fail
  refine HA.out.mono ?_
  rintro e w1 ⟨r, rfl, hf, hc⟩
  have HC := Lib.hid hc
  clear hc
  have HL := Lib.hid (H.out.kept HC.out)
  rcases hf.out with ⟨rfl, h1⟩ | ⟨k, rfl, hkl, h1⟩
  · have E : Hid (M.leave (es.map Prod.snd) id = (7, es.map Prod.snd)) := by show _ = _; simp only [M.leave, h1]
    clear h1 hf
    go_wp2
    go_ret
    rw [E.out]
    exact ⟨rfl, ⟨v, es, HL.out, rfl⟩, HC.out.of_no⟩
  · obtain ⟨⟨b, q⟩, hq⟩ : ∃ x, es[k]? = some x := ⟨es[k], List.getElem?_eq_getElem hkl⟩
    have hq2 : (es.map Prod.snd)[k]? = some q := by rw [List.getElem?_map, hq]; rfl
    obtain ⟨hSb, hB⟩ := HL.out.pods _ (List.mem_of_getElem? hq)
    have b1 : w1.cell? ⟨b, 1, none⟩ = some (.int .i64 q.st) := Blk.cell hB 1
    have b2 : w1.cell? ⟨b, 2, none⟩ = some (.int .i64 q.busy) := Blk.cell hB 2
    have f2 := Blk.free hB 2
    obtain ⟨⟨q0, q1⟩, _⟩ := OK.out q (List.mem_of_getElem? hq2)
    have HB := Lib.hid hB
    have HQ := Lib.hid hq
    have HS := Lib.hid hSb
    have hkn : k < (es.map Prod.snd).length := by simpa using hkl
    have E : Hid (M.leave (es.map Prod.snd) id = if q.busy == 0 then (7, es.map Prod.snd) else if q.busy - 1 == 0 && q.st == 3 then (0, (es.map Prod.snd).eraseIdx k) else (0, (es.map Prod.snd).set k { q with busy := q.busy - 1 })) := by show _ = _; simp only [M.leave, h1, hq2]
    have HL2 := Lib.hid (HL.out.setPod (q' := { q with busy := q.busy - 1 }) hq (hB.set 2 (.int .i64 (q.busy - 1))))
    have hp0 : w1.cell? ⟨p, 0, none⟩ = some v := Blk.cell HL.out.blk 0
    have hne : b ≠ p := hB.ne HL.out.blk (by decide)
    have C2 : Hid (Chg S w (w1.setCell ⟨b, 2, none⟩ (.int .i64 (q.busy - 1)))) := HC.out.of_no.set (fun _ => HS.out) _
    clear hB hq hq2 hSb h1 hf
    cases x1 : q.busy == 0
    · rw [x1] at E
      cases x2 : q.busy - 1 == 0 <;> cases x3 : q.st == 3
      case true.true =>
        rw [x2, x3] at E
        have hone := ifaces_one (es.set k (b, { q with busy := q.busy - 1 }))
        have hdel := Lib.hid (G.delete_one _ _ _ _ (by rw [List.length_map]; exact HL2.out.row.arr) (by simpa using hn) hone k (by simpa using hkl))
        clear hone
        go_wp2_with fail
        refine (pod_at _ S p v _ made HL.out _ b q (by omega) (by rw [Int.toNat_natCast]; exact HQ.out)).mono ?_
        rintro e w' ⟨rfl, rfl⟩
        go_wp2_with fail
        refine (pod_at _ S p v _ made HL.out _ b q (by omega) (by rw [Int.toNat_natCast]; exact HQ.out)).mono ?_
        rintro e w' ⟨rfl, rfl⟩
        go_wp2_with fail
        refine hdel.out.mono ?_
        rintro e w2 ⟨v', rfl, ho, hc⟩
        rw [List.length_map, List.length_set] at ho
        have HO := Lib.hid ho
        have HC2 := Lib.hid hc
        have bp := Lib.hid (HL2.out.blk.chg hc (HL2.out.blk.no_arr (by decide)))
        have c0 : w2.cell? ⟨p, 0, none⟩ = some v := Blk.cell bp.out 0
        have fp : w2.frozen? ⟨p, 0, none⟩ = false := Blk.free bp.out 0
        obtain ⟨va', cap', hv'⟩ := HO.out.sl
        subst hv'
        clear ho hc
        go_wp2
        go_ret
        rw [E.out]
        refine ⟨rfl, ⟨_, _, HL2.out.erase (by simpa using hkl) (by rw [List.length_set]; exact HO.out) HC2.out, ?_⟩, (C2.out.step HC2.out fun _ _ h => h.1).set (fun _ => H.out.own) _⟩
        rw [List.eraseIdx_set_eq, ← map_erase]
        rfl
      all_goals
        rw [x2, x3] at E
        go_wp2_with (go_at_call 45; refine (pod_at _ S p v _ made HL.out _ b q (by omega) (by rw [Int.toNat_natCast]; exact HQ.out)).mono ?_; rintro e w' ⟨rfl, rfl⟩)
        go_ret
        rw [E.out]
        exact ⟨rfl, life_set HL2.out, C2.out⟩
    · rw [x1] at E
      go_wp2_with (go_at_call 45; refine (pod_at _ S p v _ made HL.out _ b q (by omega) (by rw [Int.toNat_natCast]; exact HQ.out)).mono ?_; rintro e w' ⟨rfl, rfl⟩)
      go_ret
      rw [E.out]
      exact ⟨rfl, ⟨v, es, HL.out, rfl⟩, HC.out.of_no⟩
end Go.Proofs.YtdgphoemjeakaaaGreatDoor.A
namespace Go.Proofs.YtdgphoemjeakaaaGreatDoor.A
open Go.RowKit Go.Shelf K
open M (Pod)
set_option maxRecDepth 100000
theorem next_skip {ps : List Pod} {n : Nat} {q : Pod} (hq : ps[n]? = some q) (h3 : (q.st == 3) = true) : M.nextTo ps (n + 1) = M.nextTo ps n := by
  simp only [M.nextTo, hq, h3, if_true]
theorem next_first {ps : List Pod} {n : Nat} {q : Pod} (hq : ps[n]? = some q) (h3 : (q.st == 3) = false) (h0 : M.nextTo ps n < 0) : M.nextTo ps (n + 1) = n := by
  simp [M.nextTo, hq, h3, h0]
theorem next_turn {ps : List Pod} {n : Nat} {q b : Pod} (hq : ps[n]? = some q) (h3 : (q.st == 3) = false) (h0 : ¬ M.nextTo ps n < 0) (hb : ps[(M.nextTo ps n).toNat]? = some b) (ha : M.ahead q b = true) : M.nextTo ps (n + 1) = n := by
  simp [M.nextTo, hq, h3, h0, hb, ha]
theorem next_stay {ps : List Pod} {n : Nat} {q b : Pod} (hq : ps[n]? = some q) (h3 : (q.st == 3) = false) (h0 : ¬ M.nextTo ps n < 0) (hb : ps[(M.nextTo ps n).toNat]? = some b) (ha : M.ahead q b = false) : M.nextTo ps (n + 1) = M.nextTo ps n := by
  simp [M.nextTo, hq, h3, h0, hb, ha]
set_option maxHeartbeats 2000000 in
theorem next_any (w : World) (S : Nat → Prop) (p : Nat) (ps : List Pod) (made : Int) (h : Life w S p ps made) (hn : ps.length ≤ 1099511627776) :
    Calls Tryz.prog 44 #[.pointer (some ⟨p, 0, none⟩)] w fun e w' => e = .returned (.int .i64 (M.nextTo ps ps.length)) ∧ Chg No w w' := by
  have H := Lib.hid h
  clear h
  go_enter Tryz.func44, Tryz.ntmps44
  go_wp2_with fail
  refine (all_any w S p ps made H.out hn).mono ?_
  rintro e w1 ⟨v, rfl, ho, hc⟩
  obtain ⟨va, cap, hv⟩ := ho.sl
  subst hv
  have HO := Lib.hid ho
  have HC := Lib.hid hc
  clear ho hc
  obtain ⟨v, es, HL, hes⟩ := H.out.kept HC.out
  go_wp2_with fail
  go_loopw [3, 10] (fun s i wr => ∃ n : Nat, n ≤ ps.length ∧ i = .int .i64 n ∧ s = .int .i64 (M.nextTo ps n) ∧ Chg No w1 wr) (fun _ i _ => ps.length - (intOf i).toNat)
  case atStart => exact ⟨0, Nat.zero_le _, rfl, rfl, Chg.refl _ _⟩
  case round =>
    obtain ⟨n, hk, rfl, rfl, hc⟩ := hrel
    obtain ⟨a1, a2⟩ := M.nextTo_bd ps n
    by_cases hlt : n < ps.length
    · obtain ⟨g, o, rfl, hS, hg, hcap, hmax⟩ := HO.out.some_ (by omega)
      obtain ⟨q, hq⟩ : ∃ q, ps[n]? = some q := ⟨ps[n], List.getElem?_eq_getElem hlt⟩
      obtain ⟨b0, b1, b2, b3⟩ := pods_cells (HO.out.kept hc) hq
      have HK := Lib.hid hc
      have HL2 := Lib.hid ((HL.kept hc).kept ((Chg.refl No wr).alloc (.cells #[.int .i64 q.id, .int .i64 q.st, .int .i64 q.busy, .int .i64 q.since] 41)))
      have HLW := Lib.hid (HL.kept hc)
      clear hmax hS hc
      cases h3 : q.st == 3
      · by_cases h0 : M.nextTo ps n < 0
        · have HN := Lib.hid (next_first hq h3 h0)
          clear hq
          generalize M.nextTo ps n = m at *
          go_wp2
          go_roundw
          case rel => exact ⟨n + 1, by omega, by go_num, by rw [HN.out], HK.out.alloc _⟩
          case measure => simp [intOf]; omega
        · obtain ⟨m, hm⟩ : ∃ m : Nat, M.nextTo ps n = m := ⟨(M.nextTo ps n).toNat, by omega⟩
          obtain ⟨b, hb⟩ : ∃ b, ps[m]? = some b := ⟨ps[m]'(by omega), List.getElem?_eq_getElem _⟩
          obtain ⟨⟨bb, b'⟩, hbb⟩ : ∃ x, es[m]? = some x := ⟨es[m]'(by rw [← hes] at hlt; simp at hlt; omega), List.getElem?_eq_getElem _⟩
          have e1 : b' = b := by
            rw [← hes, List.getElem?_map, hbb] at hb
            exact Option.some.inj hb
          subst e1
          obtain ⟨_, hB⟩ := HLW.out.pods _ (List.mem_of_getElem? hbb)
          have c1 : wr.cell? ⟨bb, 1, none⟩ = some (.int .i64 b'.st) := Blk.cell hB 1
          have c2 : wr.cell? ⟨bb, 2, none⟩ = some (.int .i64 b'.busy) := Blk.cell hB 2
          have hbl := hB.lt
          have hb2 : ps[(M.nextTo ps n).toNat]? = some b' := by rw [hm]; exact hb
          have HT : Hid (M.ahead q b' = true → M.nextTo ps (n + 1) = n) := fun ha => next_turn hq h3 h0 hb2 ha
          have HF : Hid (M.ahead q b' = false → M.nextTo ps (n + 1) = m) := fun ha => by rw [next_stay hq h3 h0 hb2 ha, hm]
          have HB := Lib.hid hbb
          rw [hm]
          clear hb2 hbb hb hq hB hm h0 a1 a2
          cases x1 : q.st == 1 <;> cases x2 : b'.st == 2 <;> cases x3 : decide (q.busy ≤ b'.busy)
          all_goals
            go_wp2_with fail
            refine (pod_at _ S p v es made HL2.out _ bb b' (by omega) (by rw [Int.toNat_natCast]; exact HB.out)).mono ?_
            rintro e w' ⟨rfl, rfl⟩
            go_wp2_with fail
            go_quiet (fail)
            go_wp2
            go_roundw
            case rel => exact ⟨n + 1, by omega, by go_num, by first | rw [HT.out (by unfold M.ahead; rw [x1, x2, x3]; rfl)] | rw [HF.out (by unfold M.ahead; rw [x1, x2, x3]; rfl)], (HK.out.alloc _).drewN _⟩
            case measure => simp [intOf]; omega
      · have HN := Lib.hid (next_skip hq h3)
        clear hq
        generalize M.nextTo ps n = m at *
        go_wp2
        go_roundw
        case rel => exact ⟨n + 1, by omega, by go_num, by rw [HN.out], HK.out.alloc _⟩
        case measure => simp [intOf]; omega
    · obtain rfl : n = ps.length := by omega
      go_wp2
      go_ret
      exact ⟨rfl, HC.out.trans hc⟩
end Go.Proofs.YtdgphoemjeakaaaGreatDoor.A
namespace Go.Proofs.YtdgphoemjeakaaaGreatDoor.A
open Go.RowKit Go.Shelf K
open M (Pod)
set_option maxRecDepth 100000
theorem LifeV.push {w1 wX w2 : World} {S : Nat → Prop} {p bn : Nat} {v v' : Value} {es : List (Nat × Pod)} {made m : Int} {q : Pod} (h : LifeV w1 S p v es made) (hX : Chg No w1 wX) (hB : Blk wX bn q.cells.toArray 41) (hbn : w1.heap.size ≤ bn)
    (own : Own w2 (K.nx (Arr w1 S) wX w2) 20 1 v' (es.length + 1) ((es.map fun x => Value.iface 96 (ref x)) ++ [.iface 96 (.pointer (some ⟨bn, 0, none⟩))])) (c : Chg (Arr w1 S) wX w2) :
    LifeV ((w2.setCell ⟨p, 0, none⟩ v').setCell ⟨p, 1, none⟩ (.int .i64 m)) (K.nx S w1 ((w2.setCell ⟨p, 0, none⟩ v').setCell ⟨p, 1, none⟩ (.int .i64 m))) p v' (es ++ [(bn, q)]) m := by
  have hp2 := (h.blk.kept hX).chg c (h.blk.no_arr (by decide))
  have hB2 := hB.chg c (fun hA => by have := h.bd bn hA.1; omega)
  have hsz : ((w2.setCell ⟨p, 0, none⟩ v').setCell ⟨p, 1, none⟩ (.int .i64 m)).heap.size = w2.heap.size := by simp [World.setCell]
  have s1 := hX.size
  have s2 := c.size
  refine ⟨fun k hk => hk.2, ⟨.inl h.own, by rw [hsz]; exact hp2.lt⟩, (hp2.set 0 v').set 1 _, ?_, ?_, fun x hx => ?_⟩
  · rw [List.length_append, List.map_append]
    refine Own.other (Own.other (own.mono fun k hk hS => ?_) hp2 (by decide) v') (hp2.set 0 v') (by decide) _
    exact ⟨hS.1.imp (fun h => h.1) (by omega), by rw [hsz]; exact hS.2⟩
  · rw [List.map_append, List.nodup_append]
    refine ⟨h.nodup, by simp, fun a ha b hb => ?_⟩
    obtain ⟨x, hx, rfl⟩ := List.mem_map.1 ha
    have hlt := h.bd _ (h.pods x hx).1
    simp at hb
    omega
  · rcases List.mem_append.1 hx with hx | hx
    · obtain ⟨h1, h2⟩ := h.pods x hx
      have h3 := (h2.kept hX).chg c (h2.no_arr (by decide))
      exact ⟨⟨.inl h1, by rw [hsz]; exact h3.lt⟩, (h3.other (h3.ne hp2 (by decide)) _).other (h3.ne hp2 (by decide)) _⟩
    · rw [List.mem_singleton.1 hx]
      exact ⟨⟨.inr hbn, by rw [hsz]; exact hB2.lt⟩, (hB2.other (hB2.ne hp2 (by decide)) _).other (hB2.ne hp2 (by decide)) _⟩
set_option maxHeartbeats 6000000 in
theorem scale_any (w : World) (S : Nat → Prop) (p : Nat) (ps : List Pod) (made : Int) (h : Life w S p ps made) (ok : M.Ok ps) (want : Nat) (now : Int) (hw : want ≤ 100) (n0 : 0 ≤ now) (n1 : now ≤ 1099511627776) (hl : ps.length + 200 ≤ 1099511627776) (m0 : 0 ≤ made) (m1 : made + 200 ≤ 1099511627776) :
    Calls Tryz.prog 22 #[.pointer (some ⟨p, 0, none⟩), .int .i64 want, .int .i64 now] w fun e w' => e = .returned (.int .i64 0) ∧ Life w' (K.nx S w w') p (M.scale want now ps made).1 (M.scale want now ps made).2 ∧ Chg S w w' := by
  have H := Lib.hid h
  have OK := Lib.hid ok
  clear h ok
  obtain ⟨i0, hi, hz0, hz1, hz2⟩ := info_parts G.info20
  have k1 : decide ((want : Int) < 0) = false := decide_eq_false (by omega)
  have k2 : decide ((100 : Int) < want) = false := decide_eq_false (by omega)
  have k3 : decide (now < 0) = false := decide_eq_false (by omega)
  have k4 : decide ((1099511627776 : Int) < now) = false := decide_eq_false (by omega)
  go_enter Tryz.func22, Tryz.ntmps22
  go_wp2_with fail
  go_loopg [] (want - M.count ps) (fun g wr => ∃ (ps' : List Pod) (made' : Int), g = want - M.count ps' ∧ Hid (Life wr (K.nx S w wr) p ps' made' ∧ Chg S w wr ∧ M.more now (want - M.count ps') (ps', made') = M.more now (want - M.count ps) (ps, made) ∧ M.Ok ps' ∧ ps'.length + (want - M.count ps') ≤ 1099511627776 ∧ 0 ≤ made' ∧ made' + (want - M.count ps' : Nat) ≤ 1099511627776))
  case atStart => exact ⟨ps, made, rfl, H.out.nx (Chg.refl _ _), Chg.refl _ _, rfl, OK.out, by omega, m0, by omega⟩
  case round =>
    obtain ⟨ps', made', rfl, HR⟩ := hrel
    have hl' := HR.out.2.2.2.1.1
    go_wp2_with fail
    refine (count_any _ _ p ps' made' HR.out.1 hl').mono ?_
    rintro e w1 ⟨rfl, hc⟩
    by_cases hlt : M.count ps' < want
    · obtain ⟨v', es, hL, rfl⟩ := HR.out.1.kept hc
      obtain ⟨r1, r2, r3, r4, r5, r6, r7⟩ := HR.out
      rw [List.length_map] at r5 hl'
      obtain ⟨g', hg⟩ : ∃ g', want - M.count (es.map Prod.snd) = g' + 1 := ⟨want - M.count (es.map Prod.snd) - 1, by omega⟩
      have c0 : w1.cell? ⟨p, 0, none⟩ = some v' := Blk.cell hL.blk 0
      have c1 : w1.cell? ⟨p, 1, none⟩ = some (.int .i64 made') := Blk.cell hL.blk 1
      have HL := Lib.hid hL
      have HC := Lib.hid hc
      have HA := Lib.hid hL.row.arr
      have R2 := Lib.hid r2
      have R3 := Lib.hid r3
      have R4 := Lib.hid r4
      have HG := Lib.hid hg
      have hpl := hL.blk.lt
      have m1' : made' + 1 ≤ 1099511627776 := by omega
      have hl2 : es.length + 1 ≤ 1099511627776 := by omega
      have hcn : Hid (want - M.count (es.map Prod.snd ++ [⟨made', 1, 0, now⟩]) = g') := by
        show _ = _
        rw [M.count_snoc]
        show want - (_ + 1) = g'
        have := HG.out
        omega
      have hs1 : w.heap.size ≤ w1.heap.size := Nat.le_trans R2.out.size HC.out.size
      have HR7 : Hid (made' + 1 + (g' : Nat) ≤ 1099511627776) := by show _ ≤ _; omega
      have HR5 : Hid (es.length + 1 + g' ≤ 1099511627776) := by show _ ≤ _; omega
      clear r1 r2 r3 r4 r5 r7 hL hc hg HR
      go_wp2_with fail
      go_region_law (refine step_app rfl (.tmp 35) (.tmp 44) 58 rfl (Arr w1 (K.nx S w wr)) 20 i0 .nilIface 1 16 Tryz.underlying58 hi hz0 hz1 hz2 rfl _ _ _ (by simp [Act.eval]) (HA.out.kept ((((Chg.refl No w1).drew).alloc _).alloc _)) ⟨w1.heap.size + 1, 0, none⟩ 1 1 [.iface 96 (.pointer (some ⟨w1.heap.size, 0, none⟩))] (by simp [Act.eval]) (by decide) rfl (built_at (by simp)) (by simp [Value.oneCell']) (by simp only [maxLen]; omega) (by omega) ?_; intro g2 o2 c2 w2 ho hc2; have hb2 := (HL.out.blk.kept ((((Chg.refl No w1).drew).alloc (.cells #[.int .i64 made', .int .i64 1, .int .i64 0, .int .i64 now] 41)).alloc (.cells #[.iface 96 (.pointer (some ⟨w1.heap.size, 0, none⟩))] 20))).chg hc2 (HL.out.blk.no_arr (by decide)); have c0' : w2.cell? ⟨p, 0, none⟩ = some v' := Blk.cell hb2 0; have c1' : w2.cell? ⟨p, 1, none⟩ = some (.int .i64 made') := Blk.cell hb2 1; have f0' := Blk.free hb2 0; have f1' := Blk.free hb2 1; have HO := Lib.hid ho; have HC2 := Lib.hid hc2; clear ho hc2 hb2)
      all_goals
        go_wp2
        go_roundg (want - M.count (es.map Prod.snd ++ [⟨made', 1, 0, now⟩]))
        case measure => have := HG.out; rw [hcn.out, this]; omega
        case rel =>
          have hX : Chg No w1 (((w1.alloc (.cells #[.int .i64 made', .int .i64 1, .int .i64 0, .int .i64 now] 41)).alloc (.cells #[.iface 96 (.pointer (some ⟨w1.heap.size, 0, none⟩))] 20)).drew) := (((Chg.refl No w1).alloc _).alloc _).drew
          have hL2 := HL.out.push (q := ⟨made', 1, 0, now⟩) (m := made' + 1) hX (((Blk.new w1 _ 41).alloc _)) (Nat.le_refl _) HO.out HC2.out
          refine ⟨es.map Prod.snd ++ [⟨made', 1, 0, now⟩], made' + 1, rfl, ⟨_, _, hL2.mono (fun k _ hk => nx_trans hs1 hk) (fun k hk => hk.2), by rw [List.map_append]; rfl⟩, ?_, ?_, ?_, ?_, by omega, ?_⟩
          · exact (((R2.out.trans (HC.out.of_no)).trans hX.of_no).step HC2.out fun k hk hA => hA.1.1.resolve_right (by omega)).set (fun hlt => (HL.out.own.1.resolve_right (by exact Nat.not_le.2 hlt))) _ |>.set (fun hlt => (HL.out.own.1.resolve_right (by exact Nat.not_le.2 hlt))) _
          · rw [hcn.out, ← R3.out, HG.out]; rfl
          · exact R4.out.more_one made' now (by rw [List.length_map]; omega) n0 n1
          · rw [hcn.out, List.length_append, List.length_map]; exact HR5.out
          · rw [hcn.out]; exact HR7.out
    · obtain ⟨r1, r2, r3, r4, r5, r6, r7⟩ := HR.out
      have hz : want - M.count ps' = 0 := by omega
      rw [hz] at r3
      have hfin : M.scale want now ps made = (M.fewer now (M.count ps' - want) ps', made') := by
        unfold M.scale
        rw [← r3]
        rfl
      have HF := Lib.hid hfin
      have R1 := Lib.hid (r1.kept hc)
      have R2 := Lib.hid (r2.trans hc.of_no)
      have R4 := Lib.hid r4
      have hge : want ≤ M.count ps' := by omega
      have hs1 : w.heap.size ≤ w1.heap.size := R2.out.size
      clear r1 r2 r3 r4 r5 r7 hc hfin HR
      go_wp2_with fail
      go_loopg [] (M.count ps' - want) (fun g wr => ∃ (qs : List Pod), g = M.count qs - want ∧ Hid (Life wr (K.nx S w wr) p qs made' ∧ Chg S w wr ∧ M.fewer now (M.count qs - want) qs = M.fewer now (M.count ps' - want) ps' ∧ M.Ok qs ∧ want ≤ M.count qs))
      case atStart => exact ⟨ps', rfl, R1.out.mono (fun k hk hS => ⟨hS.1, hk⟩) (fun k hk => hk.2), R2.out, rfl, R4.out, hge⟩
      case round =>
        obtain ⟨qs, rfl, HR⟩ := hrel
        have hl' := HR.out.2.2.2.1.1
        go_wp2_with fail
        refine (count_any _ _ p qs made' HR.out.1 hl').mono ?_
        rintro e w2 ⟨rfl, hc⟩
        by_cases hlt : want < M.count qs
        · obtain ⟨r1, r2, r3, r4, r5⟩ := HR.out
          obtain ⟨q, q0, hq, h3⟩ : ∃ q, 0 ≤ M.nextTo qs qs.length ∧ qs[(M.nextTo qs qs.length).toNat]? = some q ∧ (q.st == 3) = false := by
            rcases M.nextTo_ok qs qs.length (Nat.le_refl _) with h | ⟨_, h⟩
            · exact h
            · rw [List.take_length] at h
              omega
          obtain ⟨k, hk⟩ : ∃ k : Nat, M.nextTo qs qs.length = k := ⟨_, (Int.toNat_of_nonneg q0).symm⟩
          have hgone : M.gone now qs = if q.busy == 0 then qs.eraseIdx k else qs.set k { q with st := 3, since := now } := by
            unfold M.gone
            rw [hk, Int.toNat_natCast]
            rw [hk, Int.toNat_natCast] at hq
            rw [hq]
          rw [hk, Int.toNat_natCast] at hq
          obtain ⟨g', hg⟩ : ∃ g', M.count qs - want = g' + 1 := ⟨M.count qs - want - 1, by omega⟩
          have hcg := M.count_gone now qs (by omega)
          have hcn : Hid (M.count (M.gone now qs) - want = g') := by show _ = _; omega
          have hcw : Hid (want ≤ M.count (M.gone now qs)) := by show _ ≤ _; omega
          have R4' := Lib.hid (r4.gone_one now n0 n1)
          have HG := Lib.hid hg
          have R2 := Lib.hid (r2.trans hc.of_no)
          have R3 := Lib.hid r3
          have HN := Lib.hid (next_any w2 _ p qs made' (r1.kept hc) hl')
          obtain ⟨v', es, hL, rfl⟩ := r1.kept hc
          have HGO := Lib.hid hgone
          have hs2 : w.heap.size ≤ w2.heap.size := R2.out.size
          clear hgone hcg hg r1 r2 r3 r4 r5 hc h3 HR
          rw [hk] at HN
          clear hk q0
          go_wp2_with fail
          refine HN.out.mono ?_
          rintro e w3 ⟨rfl, hc⟩
          have HL := Lib.hid (hL.kept hc)
          have R2' := Lib.hid (R2.out.trans hc.of_no)
          have hkl : k < es.length := by have := (List.getElem?_eq_some_iff.1 hq).1; simpa using this
          obtain ⟨⟨b, q'⟩, hb⟩ : ∃ x, es[k]? = some x := ⟨es[k], List.getElem?_eq_getElem hkl⟩
          obtain rfl : q' = q := by rw [List.getElem?_map, hb] at hq; exact Option.some.inj hq
          obtain ⟨hSb, hB⟩ := HL.out.pods _ (List.mem_of_getElem? hb)
          have b1 : w3.cell? ⟨b, 1, none⟩ = some (.int .i64 q'.st) := Blk.cell hB 1
          have b2 : w3.cell? ⟨b, 2, none⟩ = some (.int .i64 q'.busy) := Blk.cell hB 2
          have b3 : w3.cell? ⟨b, 3, none⟩ = some (.int .i64 q'.since) := Blk.cell hB 3
          have f1 := Blk.free hB 1
          have f3 := Blk.free hB 3
          have c0 : w3.cell? ⟨p, 0, none⟩ = some v' := Blk.cell HL.out.blk 0
          have hs3 : w.heap.size ≤ w3.heap.size := Nat.le_trans hs2 hc.size
          have hll : es.length ≤ 1099511627776 := by simpa using hl'
          have HQ := Lib.hid hb
          have HB := Lib.hid hB
          have HS := Lib.hid hSb
          have hdel := Lib.hid (G.delete_one w3 _ _ _ (by rw [List.length_map]; exact HL.out.row.arr) (by simpa using hll) (ifaces_one es) k (by simpa using hkl))
          have hkb : k + 1 ≤ 1099511627776 := by omega
          clear hL hc hq hb hB hSb hl' hll
          go_wp2_with fail
          refine (pod_at _ _ p v' _ made' HL.out _ b q' (by omega) (by rw [Int.toNat_natCast]; exact HQ.out)).mono ?_
          rintro e w' ⟨rfl, rfl⟩
          cases x1 : q'.busy == 0
          · rw [x1] at HGO
            go_wp2
            go_roundg (M.count (M.gone now (es.map Prod.snd)) - want)
            case measure => have := HG.out; rw [hcn.out, this]; omega
            case rel =>
              have hL2 := (HL.out.setPod (q' := { q' with st := 3 }) HQ.out (HB.out.set 1 (.int .i64 3)))
              have hB2 : Blk ((w3.setCell ⟨b, 1, none⟩ (.int .i64 3)).setCell ⟨b, 3, none⟩ (.int .i64 now)) b _ 41 := (HB.out.set 1 (.int .i64 3)).set 3 (.int .i64 now)
              have hL3 := hL2.setPod (k := k) (q := { q' with st := 3 }) (q' := { q' with st := 3, since := now }) (by rw [List.getElem?_set_self hkl]) hB2
              refine ⟨_, rfl, ⟨v', _, hL3.mono (fun k hk hS => ⟨hS.1, by simpa [World.setCell] using hk⟩) (fun k hk => hk.2), ?_⟩, ?_, ?_, R4'.out, hcw.out⟩
              · rw [List.set_set, HGO.out, List.map_set]; rfl
              · exact (R2'.out.set (fun hlt => (HS.out.1.resolve_right (by exact Nat.not_le.2 hlt))) _).set (fun hlt => (HS.out.1.resolve_right (by exact Nat.not_le.2 hlt))) _
              · rw [hcn.out, ← R3.out, HG.out]; rfl
          · rw [x1] at HGO
            go_wp2_with fail
            refine hdel.out.mono ?_
            rintro e w4 ⟨v2, rfl, ho, hc⟩
            rw [List.length_map] at ho
            have HO := Lib.hid ho
            have HC2 := Lib.hid hc
            have bp := Lib.hid (HL.out.blk.chg hc (HL.out.blk.no_arr (by decide)))
            have c0 : w4.cell? ⟨p, 0, none⟩ = some v' := Blk.cell bp.out 0
            have fp : w4.frozen? ⟨p, 0, none⟩ = false := Blk.free bp.out 0
            obtain ⟨va', cap', hv'⟩ := HO.out.sl
            subst hv'
            clear ho hc
            go_wp2
            go_roundg (M.count (M.gone now (es.map Prod.snd)) - want)
            case measure => have := HG.out; rw [hcn.out, this]; omega
            case rel =>
              have hL2 := HL.out.erase hkl HO.out HC2.out
              refine ⟨_, rfl, ⟨_, _, hL2.mono (fun k hk hS => ⟨hS.1, hk⟩) (fun k hk => hk.2), ?_⟩, ?_, ?_, R4'.out, hcw.out⟩
              · rw [HGO.out, ← map_erase]; rfl
              · exact (R2'.out.step HC2.out fun k hk hA => hA.1.1.resolve_right (by omega)).set (fun hlt => (HL.out.own.1.resolve_right (by exact Nat.not_le.2 hlt))) _
              · rw [hcn.out, ← R3.out, HG.out]; rfl
        · obtain ⟨r1, r2, r3, r4, r5⟩ := HR.out
          have hz : M.count qs - want = 0 := by omega
          rw [hz] at r3
          have R1' := Lib.hid (r1.kept hc)
          have R2' := Lib.hid (r2.trans hc.of_no)
          have R3 := Lib.hid r3
          clear r1 r2 r3 r4 r5 hc HR
          go_wp2
          go_ret
          rw [HF.out]
          refine ⟨rfl, ?_, R2'.out⟩
          rw [← R3.out]
          exact R1'.out.mono (fun k hk hS => ⟨hS.1, hk⟩) fun k hk => hk.2
end Go.Proofs.YtdgphoemjeakaaaGreatDoor.A
