/- The whole service: scrape. The whole service: See. The whole service: See. -/
import Derived.Test.YtdgphoemjeakaaaGreatDoorR28
import Derived.Test.YtdgphoemjeakaaaGreatDoorR23
import Derived.Test.YtdgphoemjeakaaaGreatDoorR13
namespace Go.Proofs.YtdgphoemjeakaaaGreatDoor.Y
open Rg
open Go.RowKit K P U Mg Wk
set_option maxRecDepth 100000
def statOf (now id : Int) (q : M.Pod) : S.Stat := ⟨id, now - q.since, q.busy * 1000⟩
def part (now id : Int) (ps : List M.Pod) : List S.Stat := (ps.filter fun q => q.id == id).map (statOf now id)
theorem part_yes {now id : Int} {ps : List M.Pod} {j : Nat} {q : M.Pod} (hq : ps[j]? = some q) (h : (q.id == id) = true) : part now id (ps.take (j + 1)) = part now id (ps.take j) ++ [statOf now id q] := by
  unfold part
  rw [List.take_add_one, hq, List.filter_append, List.map_append]
  simp [h]
theorem part_no {now id : Int} {ps : List M.Pod} {j : Nat} {q : M.Pod} (hq : ps[j]? = some q) (h : (q.id == id) = false) : part now id (ps.take (j + 1)) = part now id (ps.take j) := by
  unfold part
  rw [List.take_add_one, hq, List.filter_append, List.map_append]
  simp [h]
theorem part_len {now id : Int} {ps : List M.Pod} (h : (ps.map M.Pod.id).Nodup) (j : Nat) : (part now id (ps.take j)).length ≤ 1 := by
  unfold part
  rw [List.length_map]
  exact Nat.le_trans (((List.take_sublist j ps).filter _).length_le) (V.filter_one h id)
def parts (now : Int) (ps : List M.Pod) (l : List Int) : List S.Stat := l.flatMap fun id => part now id ps
theorem parts_snoc {now : Int} {ps : List M.Pod} {l : List Int} {n : Nat} {id : Int} (h : l[n]? = some id) : parts now ps (l.take (n + 1)) = parts now ps (l.take n) ++ part now id ps := by
  unfold parts
  rw [List.take_add_one, h, List.flatMap_append]
  simp
theorem parts_len {now : Int} {ps : List M.Pod} (h : (ps.map M.Pod.id).Nodup) (l : List Int) : (parts now ps l).length ≤ l.length := V.flat_len (fun id => by
  have := part_len (now := now) (id := id) h ps.length
  rwa [List.take_length] at this) l
theorem parts_stats (ps : List M.Pod) (now : Int) : parts now ps (S.which (M.ready ps) now) = V.stats ps now := rfl
theorem own_arr {w : World} {T : Nat → Prop} {e : TypeId} {size n : Nat} {v : Value} {xs : List Value} (h : Own w T e size v n xs) : Own w (fun b => T b ∧ ∃ cs, Blk w b cs e) e size v n xs := by
  refine ⟨h.len, h.at_.imp_right ?_⟩
  rintro ⟨g, o, cap, cur, hv, hS, hb, h1⟩
  exact ⟨g, o, cap, cur, hv, ⟨hS, _, hb⟩, hb, h1⟩
def T6 (w3 w6 : World) : Nat → Prop := fun k => w3.heap.size ≤ k ∧ k < w6.heap.size ∧ ¬ ∃ cs, Blk w6 k cs 41
theorem T6.pods {w3 w6 wr : World} {T : Nat → Prop} {v : Value} {n : Nat} {xs : List Value} (h : Own w6 T 41 4 v n xs) (c : Chg (T6 w3 w6) w6 wr) : Own wr (fun _ => True) 41 4 v n xs :=
  ((own_arr h).chg c fun _ h1 h2 => h2.2.2 h1.2).mono fun _ _ _ => trivial
theorem T6.step {w3 w6 w' w'' : World} (c : Chg (T6 w3 w6) w6 w') (d : Chg (fun b => New w3 b ∧ ∃ cs, Blk w' b cs 161) w' w'') : Chg (T6 w3 w6) w6 w'' := by
  refine c.step d fun k hk hT => ?_
  obtain ⟨h1, cs, h2⟩ := hT
  refine ⟨h1, hk, ?_⟩
  rintro ⟨cs', h3⟩
  have h4 := h3.chg c fun h5 => h5.2.2 ⟨cs', h3⟩
  exact (h4.ne h2 (by decide)) rfl
theorem T6.back {w3 w6 wr : World} (h : Chg No w3 w6) (c : Chg (T6 w3 w6) w6 wr) : Chg No w3 wr := h.step c fun k hk hT => absurd hT.1 (by omega)
theorem parts_fine {li now made : Int} {ps : List M.Pod} (h : V.PodsOk li now made ps) (l1 : li ≤ 1000) (l : List Int) : S.Fine (parts now ps l) := by
  intro x hx
  obtain ⟨id, hid, hx⟩ := List.mem_flatMap.1 hx
  obtain ⟨p, hp, rfl⟩ := List.mem_map.1 hx
  obtain ⟨hp, he⟩ := List.mem_filter.1 hp
  have he' : p.id = id := by simpa using he
  obtain ⟨a, b, c, d⟩ := h.pod p hp
  exact ⟨by show 0 ≤ id; omega, by show 0 ≤ now - p.since; omega, by show 0 ≤ p.busy * 1000; omega, by show p.busy * 1000 ≤ 1000000; omega⟩
theorem which_c (w : World) (T : Nat → Prop) (v : Value) (ids : List Int) (mo : Nat) (own : Own w T 3 1 v ids.length (ids.map (Value.int .i64))) (hn : ids.length ≤ 200) (r : Int) (r0 : 0 ≤ r) (r1 : r ≤ 1099511627776) :
    Calls Tryz.prog 91 #[v, .int .i64 mo, .int .i64 r] w fun e w' => ∃ (v' : Value) (ys : List Int), e = .returned v' ∧ ys.length ≤ 17 ∧ (mo = 0 → ys = S.which ids r) ∧ Own w' (New w) 3 1 v' ys.length (ys.map (Value.int .i64)) ∧ Chg No w w' := by
  by_cases h : mo = 0
  · subst h
    exact (S.which_any w T v ids own hn r r0 r1).mono fun e w' ⟨v', h1, h2, h3⟩ => ⟨v', _, h1, by rw [V.which_len]; exact (S.size_bd _).2, (fun _ => rfl), h2, h3⟩
  · exact (S.which_w w T v ids mo own hn r r0 r1).mono fun e w' ⟨v', ys, h1, h2, _, h3, h4⟩ => ⟨v', ys, h1, h2, (fun h' => absurd h' h), h3, h4⟩
theorem may_smp {v : Nat → Int} (h : mayB v = true) : 0 ≤ v 19 ∧ v 19 ≤ 100 := by
  unfold mayB pbs wi topI at h
  simp only [List.all_cons, List.all_nil, id, Bool.and_true, Bool.and_eq_true, Bool.or_eq_true, decide_eq_true_eq, beq_iff_eq] at h
  obtain ⟨h0, h1, h2, h3, h4, h5, h6, h7, h8, h9, h10, h11, h12, h13, h14, h15, h16, h17, h18, h19⟩ := h
  exact h19
theorem sc19 (a : At) (rv tv : Value) (s : V.Sys) : (sca a rv tv s)[19]? = some (.int .i64 (a.v 19)) := by kernel_rfl
set_option maxHeartbeats 8000000 in
theorem scrape_any {a : At} {SS : Nat → Prop} {w0 : World} {rv tv : Value} {tn : Nat} {tx : List Value} {s : V.Sys} {w : World} (h : St a SS w0 (sca a rv tv s) rv tv tn tx s w) (may : mayB a.v = true) (exv : a.E.ex → a.v = vdef) (pl : V.Pl s.now s.made s.q s.pods s.rs) (n1 : s.now ≤ 1000000) (hr : s.rs.length ≤ 1000000) :
    Calls Tryz.prog 61 #[.pointer (some ⟨a.p, 0, none⟩)] w fun e w' => ∃ val : Int, e = .returned (.int .i64 val) ∧ (0 ≤ val ∧ val ≤ 1125899906842624) ∧ (a.E.ex → val = V.scrape s.pods s.now s.q.length) ∧ Chg No w w' := by
  obtain ⟨i1, hi1, hy0, hy1, hy2⟩ := info_parts info161
  obtain ⟨OK, hps, _⟩ := pods_small (n := s.rs.length) pl.ok.pods (by have := pl.ok.load; omega) hr (by decide) n1
  have HND := Lib.hid pl.ok.pods.ids
  have HPOD := Lib.hid pl.ok.pods.pod
  have hcnt := pl.ok.pods.cnt
  have hz := pl.now0
  have hql := pl.ok.qlen
  have hrl := V.ready_len s.pods
  have HFI := Lib.hid (parts_fine pl.ok.pods (by decide))
  obtain ⟨smp, hsmp⟩ : ∃ k : Nat, a.v 19 = k := ⟨(a.v 19).toNat, by have := may_smp may; omega⟩
  have HSM := Lib.hid hsmp
  have HE0 : Hid (a.E.ex → smp = 0) := fun hx => by
    rw [exv hx] at hsmp
    have : (0 : Int) = smp := hsmp
    omega
  have H := Lib.hid h
  clear h pl OK may exv hsmp
  have HSC : Hid (V.scrape s.pods s.now s.q.length = S.spread (V.stats s.pods s.now) (M.ready s.pods).length + (s.q.length : Nat) * 1000) := rfl
  have HPS := Lib.hid (parts_stats s.pods s.now)
  obtain ⟨ps, hps'⟩ : ∃ ps, s.pods = ps := ⟨_, rfl⟩
  have HPP := Lib.hid hps'
  rw [hps'] at HND HPOD HFI HPS hrl hps hcnt
  obtain ⟨ids, hids⟩ : ∃ ids, M.ready ps = ids := ⟨_, rfl⟩
  have HID := Lib.hid hids
  rw [hids] at hrl HPS
  clear hps' hids
  go_enter Tryz.func61, Tryz.ntmps61
  go_wp2_with fail
  refine (pods_any H.out (sc21 a rv tv s)).mono ?_
  rintro e w1 ⟨rfl, hc1⟩
  have H1 := Lib.hid (H.out.no hc1)
  have C1 := Lib.hid hc1
  clear H hc1
  go_wp2_with fail
  obtain ⟨C, hl, _⟩ := H1.out.life
  rw [HPP.out] at hl
  refine (A.ready_any w1 C a.l ps s.made hl (by omega)).mono ?_
  rintro e w2 ⟨v2, rfl, ho2, hc2⟩
  rw [HID.out] at ho2
  obtain ⟨vi, ci, rfl⟩ := ho2.sl
  have H2 := Lib.hid (H1.out.no hc2)
  have C2 := Lib.hid (C1.out.trans hc2)
  have HO2 := Lib.hid ho2
  clear H1 C1 hl ho2 hc2
  go_wp2_with fail
  refine scr3_at (by kernel_rfl) a.p vi ids.length ci s.now smp (fun x b w' => Chg No w2 w' ∧ (b = true → ∃ ys : List Int, ys.length = x.2 ∧ x.2 ≤ 17 ∧ (smp = 0 → ys = S.which ids s.now) ∧ Own w' (New w2) 3 1 (.slice x.1.1 x.2 x.1.2) x.2 (ys.map (Value.int .i64)))) (fun _ w' y => by rw [(H2.out.no y.1).blk.cell, sc19, HSM.out]) (fun _ w' y => by rw [(H2.out.no y.1).blk.cell, sc20]) (fun _ w' y => ?_) _ rfl rfl rfl ((none, 0), 0) ⟨(Chg.refl No w2).drew, fun h => by cases h⟩ fun x w3 h3 => ?_
  · refine (which_c w' _ _ ids smp (HO2.out.kept y.1) (by omega) s.now hz (by omega)).mono ?_
    rintro e w'' ⟨v', ys, rfl, hl, he, ho, hc⟩
    obtain ⟨va, ca', rfl⟩ := ho.sl
    exact ⟨((va, ca'), ys.length), rfl, y.1.trans hc, fun _ => ⟨ys, rfl, hl, he, ho.mono fun k _ hk => Nat.le_trans y.1.size hk⟩⟩
  obtain ⟨h3, hw3⟩ := h3
  obtain ⟨wh, hwh, hwl, hwe, ho3⟩ := hw3 rfl
  obtain ⟨⟨xa, xc⟩, xn⟩ := x
  obtain rfl : wh.length = xn := hwh
  have HO3 := Lib.hid ho3
  have HWE := Lib.hid hwe
  have H3 := Lib.hid (H2.out.no h3)
  have C3 := Lib.hid (C2.out.trans h3)
  have HO2' := Lib.hid (HO2.out.kept h3)
  clear h3 hw3 ho3 hwe H2 C2 HO2
  simp only [lay_scr3, puts, List.setIfInBounds_toArray, List.set_cons_succ, List.set_cons_zero]
  go_wp2_with fail
  go_loopw [4, 28] (fun l i wr => ∃ n : Nat, n ≤ wh.length ∧ i = .int .i64 n ∧ Own wr (New w3) 161 3 l (parts s.now ps (wh.take n)).length (S.cellsOf (parts s.now ps (wh.take n))) ∧ Chg No w3 wr) (fun _ i _ => wh.length - (intOf i).toNat)
  case atStart => exact ⟨0, Nat.zero_le _, rfl, Own.nil _ _ _ _, Chg.refl _ _⟩
  case round =>
    obtain ⟨n, hk, rfl, ho, hc⟩ := hrel
    by_cases hlt : n < wh.length
    · obtain ⟨g5, o5, rfl, hS, hg, hcap, hmax⟩ := HO3.out.some_ (by omega)
      obtain ⟨id, hid⟩ : ∃ i, wh[n]? = some i := ⟨wh[n], List.getElem?_eq_getElem hlt⟩
      have e0 : wr.cell? ⟨g5, o5 + n, none⟩ = some (.int .i64 id) := by
        rw [(HO3.out.kept hc).cellAt n (by omega), List.getElem?_map, hid]; rfl
      have HT := Lib.hid (parts_snoc (now := s.now) (ps := ps) hid)
      have hcl : (parts s.now ps (wh.take n)).length ≤ 17 := by
        have := parts_len (now := s.now) HND.out (wh.take n)
        rw [List.length_take] at this
        omega
      have HO4 := Lib.hid ho
      have HC4 := Lib.hid hc
      have H4 := Lib.hid (H3.out.no hc)
      clear ho hc hid hS hmax
      generalize hcur : parts s.now ps (wh.take n) = cur at *
      clear hcur
      go_wp2_with fail
      refine (pods_any H4.out (sc21 a rv tv s)).mono ?_
      rintro e w5 ⟨rfl, hc5⟩
      have H5 := Lib.hid (H4.out.no hc5)
      have C5 := Lib.hid (HC4.out.trans hc5)
      have HO5 := Lib.hid (HO4.out.kept hc5)
      clear H4 HC4 HO4 hc5
      go_wp2_with fail
      obtain ⟨C, hl, _⟩ := H5.out.life
      rw [HPP.out] at hl
      refine (A.all_any w5 C a.l ps s.made hl (by omega)).mono ?_
      rintro e w6 ⟨v6, rfl, ho6, hc6⟩
      obtain ⟨v6a, v6c, rfl⟩ := ho6.sl
      have H6 := Lib.hid (H5.out.no hc6)
      have C6 := Lib.hid (C5.out.trans hc6)
      have HO6 := Lib.hid (HO5.out.kept hc6)
      have HP6 := Lib.hid ho6
      clear H5 C5 HO5 hl ho6 hc6
      go_wp2_with fail
      have hpl : a.p < w3.heap.size := H3.out.blk.lt
      have HB6 := Lib.hid H6.out.blk
      clear H6
      go_loopw [4, 36] (fun l i wr => ∃ j : Nat, j ≤ ps.length ∧ i = .int .i64 j ∧ Own wr (New w3) 161 3 l (cur ++ part s.now id (ps.take j)).length (S.cellsOf (cur ++ part s.now id (ps.take j))) ∧ Chg (T6 w3 w6) w6 wr) (fun _ i _ => ps.length - (intOf i).toNat)
      case atStart => exact ⟨0, Nat.zero_le _, rfl, by simpa [part] using HO6.out, Chg.refl _ _⟩
      case round =>
        obtain ⟨j, hj, rfl, ho, hc⟩ := hrel
        rename World => wr2
        by_cases hjl : j < ps.length
        · obtain ⟨q, hq⟩ : ∃ q, ps[j]? = some q := ⟨ps[j], List.getElem?_eq_getElem hjl⟩
          have hP := T6.pods HP6.out hc
          obtain ⟨g7, o7, rfl, _, _, _, _⟩ := hP.some_ (by omega)
          obtain ⟨b0, b1, b2, b3⟩ := A.pods_cells hP hq
          obtain ⟨_, ⟨p0, p1⟩, ⟨p2, p3⟩, _⟩ := HPOD.out q (List.mem_of_getElem? hq)
          have hpl1 : (part s.now id (ps.take j)).length ≤ 1 := part_len HND.out j
          have HQ := Lib.hid hq
          have HO7 := Lib.hid ho
          have HC7 := Lib.hid hc
          have HB7 := Lib.hid (HB6.out.chg hc fun h => by have := h.1; omega)
          clear ho hc hq hP
          cases hst : q.id == id
          · have HPN := Lib.hid (part_no (now := s.now) HQ.out hst)
            go_wp2
            go_roundw
            case rel => exact ⟨j + 1, by omega, by go_num, by rw [HPN.out]; exact HO7.out.alloc _, HC7.out.alloc _⟩
            case measure => simp [intOf]; omega
          · have HPY := Lib.hid (part_yes (now := s.now) HQ.out hst)
            obtain ⟨va, vc, hva⟩ := HO7.out.sl
            subst hva
            go_wp2_with fail
            obtain ⟨wA, hwA⟩ : ∃ wA, wr2.alloc (.cells #[.int .i64 q.id, .int .i64 q.st, .int .i64 q.busy, .int .i64 q.since] 41) = wA := ⟨_, rfl⟩
            rw [hwA]
            have hBA : Blk wA wr2.heap.size #[.int .i64 q.id, .int .i64 q.st, .int .i64 q.busy, .int .i64 q.since] 41 := by rw [← hwA]; exact Blk.new _ _ _
            have cA : Chg No wr2 wA := by rw [← hwA]; exact (Chg.refl No wr2).alloc _
            have HBA := Lib.hid hBA
            have HOA := Lib.hid (HO7.out.kept cA)
            have HCA := Lib.hid (HC7.out.trans cA.of_no)
            have HBP := Lib.hid (HB7.out.kept cA)
            have hsz : w3.heap.size ≤ wA.heap.size := by have := HCA.out.size; have := C6.out.size; omega
            clear hwA hBA cA HO7 HC7 HB7
            generalize hcl2 : (cur ++ part s.now id (ps.take j)).length = cl at *
            have hcl3 : cl ≤ 18 := by rw [← hcl2, List.length_append]; omega
            have HCL := Lib.hid hcl2
            clear hcl2
            refine scr11_at (by kernel_rfl) a.p wr2.heap.size va cl vc id s.now q.since q.busy (fun x b0 b1 w' => match b1 with
              | false => Chg No wA w' ∧ (b0 = true → Blk w' x.1 #[.int .i64 id, .int .i64 (s.now - q.since), .int .i64 (q.busy * 1000)] 161)
              | true => Own w' (New w3) 161 3 (.slice x.2.1 (cl + 1) x.2.2) (cl + 1) (S.cellsOf (cur ++ part s.now id (ps.take j)) ++ [.int .i64 id, .int .i64 (s.now - q.since), .int .i64 (q.busy * 1000)]) ∧ Chg (T6 w3 w6) w6 w') p2 p3 (by omega) p0 (by omega)
              (fun _ w' y => by rw [(HBP.out.kept y.1).cell]; exact sc20 _ _ _ _) (fun _ w' y => by rw [(HBA.out.kept y.1).cell]; rfl) (fun _ w' y => by rw [(HBA.out.kept y.1).cell]; rfl) (fun x w' y => ⟨y.1.alloc _, fun _ => Blk.new w' _ _⟩) (fun x w' y => ?_) _ rfl rfl rfl rfl rfl (0, none, 0) ⟨(Chg.refl No wA).drew, fun h => by cases h⟩ fun x w9 h9 => ?_
            · obtain ⟨y1, y2⟩ := y
              have hb := y2 rfl
              refine ⟨_, _, own_arr (HOA.out.kept y1), fun j u hu => ?_, by simp only [maxLen]; omega, by omega, fun g' o' c' w'' ho' hc' => ⟨?_, ?_⟩⟩
              · rw [Addr.add_lit, Nat.zero_add, hb.cell, ← Array.getElem?_toList]
                exact hu
              · exact ho'.mono fun k _ hk => hk.1.elim (fun h => h.1) fun h => Nat.le_trans (Nat.le_trans hsz y1.size) h
              · exact T6.step (HCA.out.trans y1.of_no) hc'
            · have H9 := Lib.hid h9.1
              have C9 := Lib.hid h9.2
              clear h9
              obtain ⟨xB, xa9, xc9⟩ := x
              simp only [lay_scr11, puts, List.setIfInBounds_toArray, List.set_cons_succ, List.set_cons_zero]
              go_wp2_with fail
              go_roundw
              case rel =>
                refine ⟨j + 1, by omega, by go_num, ?_, C9.out⟩
                rw [HPY.out, ← List.append_assoc, S.cells_snoc, List.length_append, HCL.out]
                exact H9.out
              case measure => simp [intOf]; omega
        · obtain rfl : j = ps.length := by omega
          rw [List.take_length] at ho
          have HO8 := Lib.hid ho
          have C8 := Lib.hid (T6.back C6.out hc)
          clear ho hc
          go_wp2_with fail
          go_roundw
          case rel =>
            refine ⟨n + 1, by omega, by go_num, ?_, C8.out⟩
            rw [HT.out]
            exact HO8.out
          case measure => simp [intOf]; omega
    · obtain rfl : n = wh.length := by omega
      rw [List.take_length] at ho
      have H4 := Lib.hid (H3.out.no hc)
      have C4 := Lib.hid (C3.out.trans hc)
      have HO4 := Lib.hid ho
      clear ho hc H3 C3
      have hfl := parts_len (now := s.now) HND.out wh
      have hfi := HFI.out wh
      have HEQ : Hid (a.E.ex → parts s.now ps wh = V.stats ps s.now) := fun hx => by rw [HWE.out (HE0.out hx)]; exact HPS.out
      clear HFI HPS HWE
      generalize parts s.now ps wh = sts at *
      go_wp2_with fail
      refine (S.spread_any _ _ _ sts HO4.out (by omega) hfi ids.length (by omega) (by omega)).mono ?_
      rintro e w5 ⟨cd, rfl, hc5⟩
      have H5 := Lib.hid (H4.out.no hc5)
      have C5 := Lib.hid (C4.out.trans hc5)
      clear H4 C4 hc5
      obtain ⟨sp0, sp1⟩ := V.spread_bd hfi (r := (ids.length : Int)) (by omega) (by omega)
      have HSP : Hid (a.E.ex → S.spread sts ids.length + (s.q.length : Nat) * 1000 = V.scrape s.pods s.now s.q.length) := fun hx => by
        rw [HSC.out, HPP.out, HID.out, HEQ.out hx]
      clear HEQ
      generalize S.spread sts ids.length = sp at *
      go_wp2_with fail
      refine (waits_any H5.out (sc21 a rv tv s)).mono ?_
      rintro e w6 ⟨rfl, hc6⟩
      have H6 := Lib.hid (H5.out.no hc6)
      have C6 := Lib.hid (C5.out.trans hc6)
      clear H5 C5 hc6
      go_wp2_with fail
      obtain ⟨C, hq, _⟩ := H6.out.queue
      refine (B.all_any w6 C a.q s.q a.dp s.ql hq (by omega)).mono ?_
      rintro e w7 ⟨v, rfl, ho, hc7⟩
      obtain ⟨va, cap, rfl⟩ := ho.sl
      have C7 := Lib.hid (C6.out.trans hc7)
      clear H6 C6 hq ho hc7
      go_wp2_with (first | (go_at_call 93; refine (add_nn _ _ _ sp0 (by omega) (by omega)).mono ?_; rintro e w' ⟨rfl, rfl⟩))
      go_ret
      exact ⟨_, rfl, ⟨by omega, by omega⟩, HSP.out, C7.out⟩
end Go.Proofs.YtdgphoemjeakaaaGreatDoor.Y
namespace Go.Proofs.YtdgphoemjeakaaaGreatDoor.Y
open Rg
open Go.RowKit K P U Mg Wk
theorem sc29 (a : At) (rv tv : Value) (s : V.Sys) : (sca a rv tv s)[29]? = some (.int .i64 s.want) := by kernel_rfl
theorem sc27 (a : At) (rv tv : Value) (s : V.Sys) : (sca a rv tv s)[27]? = some (.bool s.ld.panic) := by kernel_rfl
def vcells (now want : Int) (pn px : Bool) (va : Option Addr) (np c : Nat) (nq : Nat) (bz : Int) (en : Int → Int) (ov : Bool) : Array Value :=
  #[.int .i64 now, .int .i64 want, .bool pn, .bool px, .slice va np c, .int .i64 nq, .int .i64 bz, .int .i64 (en 0), .int .i64 (en 1), .int .i64 (en 2), .int .i64 (en 3), .int .i64 (en 4), .int .i64 (en 5), .int .i64 (en 6), .bool ov]
def vs (s : V.Sys) (x : (Option Addr × Nat) × Bool) : Array Value := vcells s.now s.want s.ld.panic s.proxy x.1.1 s.pods.length x.1.2 s.q.length (V.ends s.rs 2) (V.ends s.rs) x.2
theorem ends_snoc (rs : List V.Req) (r : V.Req) (st : Int) : V.ends (rs ++ [r]) st = V.ends rs st + if r.st == st then 1 else 0 := by
  unfold V.ends
  rw [List.filter_append, List.length_append]
  cases h : r.st == st <;> simp [h]
theorem ends_nn (rs : List V.Req) (st : Int) : 0 ≤ V.ends rs st ∧ V.ends rs st ≤ rs.length := by
  unfold V.ends
  have := List.length_filter_le (fun r => r.st == st) rs
  omega
theorem vcells_add {now want : Int} {pn px : Bool} {va : Option Addr} {np c nq : Nat} {bz : Int} {ov : Bool} {rs : List V.Req} {r : V.Req} {k : Nat} (hk : r.st = k) (h6 : k ≤ 6) :
    (vcells now want pn px va np c nq bz (V.ends rs) ov).setIfInBounds (7 + k) (.int .i64 (V.ends rs k + 1)) = vcells now want pn px va np c nq bz (V.ends (rs ++ [r])) ov := by
  have e : V.ends (rs ++ [r]) = fun st => V.ends rs st + if (k : Int) == st then 1 else 0 := by
    funext st
    rw [ends_snoc, hk]
  rw [e]
  obtain rfl | rfl | rfl | rfl | rfl | rfl | rfl : k = 0 ∨ k = 1 ∨ k = 2 ∨ k = 3 ∨ k = 4 ∨ k = 5 ∨ k = 6 := by omega
  all_goals simp [vcells]
def aset (cs : Array Value) : Nat → List Value → Array Value
  | _, [] => cs
  | o, v :: l => aset (cs.setIfInBounds o v) (o + 1) l
theorem Chg.cells {T : Nat → Prop} {w0 : World} {B : Nat} (ha : B < w0.heap.size → T B) : ∀ (l : List Value) (o : Nat) {w : World}, Chg T w0 w → Chg T w0 (w.setCells B o l)
  | [], _, _, h => h
  | v :: l, o, _, h => Chg.cells ha l (o + 1) (h.set ha v)
theorem Blk.cells {B : Nat} {t : TypeId} : ∀ (l : List Value) (o : Nat) {w : World} {cs : Array Value}, Blk w B cs t → Blk (w.setCells B o l) B (aset cs o l) t
  | [], _, _, _, h => h
  | v :: l, o, _, _, h => Blk.cells l (o + 1) (h.set o v)
theorem Blk.there {w : World} {B : Nat} {cs : Array Value} {t : TypeId} (h : Blk w B cs t) (o n : Nat) (hn : o + n ≤ cs.size) : w.there B o n := fun j hj => by
  rw [h.cell]
  exact ⟨by rw [Array.getElem?_eq_getElem (by omega)]; rfl, h.free _⟩
abbrev zcells : Array Value := #[.int .i64 0, .int .i64 0, .bool false, .bool false, .slice none 0 0, .int .i64 0, .int .i64 0, .int .i64 0, .int .i64 0, .int .i64 0, .int .i64 0, .int .i64 0, .int .i64 0, .int .i64 0, .bool false]
theorem aset_z (now want : Int) (pn px : Bool) (va : Option Addr) (np c nq : Nat) (bz : Int) (en : Int → Int) (ov : Bool) : aset zcells 0 [.int .i64 now, .int .i64 want, .bool pn, .bool px, .slice va np c, .int .i64 nq, .int .i64 bz, .int .i64 (en 0), .int .i64 (en 1), .int .i64 (en 2), .int .i64 (en 3), .int .i64 (en 4), .int .i64 (en 5), .int .i64 (en 6), .bool ov] = vcells now want pn px va np c nq bz en ov := by kernel_rfl
theorem own_but {w : World} {T : Nat → Prop} {v : Value} {n : Nat} {xs : List Value} {B : Nat} {cs : Array Value} (ho : Own w T 41 4 v n xs) (hB : Blk w B cs 38) (l : List Value) : Own (w.setCells B 0 l) T 41 4 v n xs := by
  refine ((own_arr ho).chg (Chg.cells (T := fun k => k = B) (fun _ => rfl) _ _ (Chg.refl _ w)) fun k hk hkB => ?_).mono fun k _ hk => hk.1
  obtain ⟨_, cs, hk2⟩ := hk
  rw [hkB] at hk2
  exact hk2.ne hB (by decide) rfl
section
variable {E : Prop} {s : V.Sys} {w : World}
abbrev XF := (Option Addr × Nat) × (Option Addr × Nat) × Nat × Bool
def Xsee (E : Prop) (s : V.Sys) (w : World) (x : XF) (b0 b1 b2 : Bool) (w' : World) : Prop :=
  Chg No w w' ∧ (b0 = true → Own w' (New w) 41 4 (.slice x.1.1 s.pods.length x.1.2) s.pods.length (A.cellsOf s.pods)) ∧ (b1 = true → w.heap.size ≤ x.2.2.1 ∧ Blk w' x.2.2.1 (cond b2 (vcells s.now s.want s.ld.panic s.proxy x.1.1 s.pods.length x.1.2 s.q.length 0 (fun _ => 0) x.2.2.2) zcells) 38) ∧ (E → x.2.2.2 = false)
theorem Xsee.no {x : XF} {b0 b1 b2 : Bool} {w' w'' : World} (h : Xsee E s w x b0 b1 b2 w') (c : Chg No w' w'') : Xsee E s w x b0 b1 b2 w'' :=
  ⟨h.1.trans c, fun hb => (h.2.1 hb).kept c, (fun hb => ⟨(h.2.2.1 hb).1, (h.2.2.1 hb).2.kept c⟩), h.2.2.2⟩
theorem Xsee.store {x : XF} {w' : World} (h : Xsee E s w x true true false w') : w'.there x.2.2.1 0 15 ∧ Xsee E s w x true true true (w'.setCells x.2.2.1 0 [.int .i64 s.now, .int .i64 s.want, .bool s.ld.panic, .bool s.proxy, .slice (x.1.1) (s.pods.length) (x.1.2), .int .i64 s.q.length, .int .i64 0, .int .i64 0, .int .i64 0, .int .i64 0, .int .i64 0, .int .i64 0, .int .i64 0, .int .i64 0, .bool x.2.2.2]) := by
  obtain ⟨h1, h2, h3, h0⟩ := h
  obtain ⟨h4, hb⟩ := h3 rfl
  have hB : Blk w' x.2.2.1 zcells 38 := hb
  refine ⟨Blk.there hB 0 15 (by decide), Chg.cells (fun h => absurd h4 (by omega)) _ _ h1, (fun _ => own_but (h2 rfl) hB _), (fun _ => ⟨h4, ?_⟩), h0⟩
  have h6 := Blk.cells [.int .i64 s.now, .int .i64 s.want, .bool s.ld.panic, .bool s.proxy, .slice (x.1.1) (s.pods.length) (x.1.2), .int .i64 s.q.length, .int .i64 0, .int .i64 0, .int .i64 0, .int .i64 0, .int .i64 0, .int .i64 0, .int .i64 0, .int .i64 0, .bool x.2.2.2] 0 hB
  rw [aset_z s.now s.want s.ld.panic s.proxy x.1.1 s.pods.length x.1.2 s.q.length 0 (fun _ => 0) x.2.2.2] at h6
  exact h6
end
end Go.Proofs.YtdgphoemjeakaaaGreatDoor.Y
namespace Go.Proofs.YtdgphoemjeakaaaGreatDoor.Y
open Rg
open Go.RowKit K P U Mg Wk
set_option maxRecDepth 100000
theorem v15 {w : World} {B : Nat} {now want : Int} {pn px : Bool} {va : Option Addr} {np c nq : Nat} {bz : Int} {en : Int → Int} {ov : Bool} (h : Blk w B (vcells now want pn px va np c nq bz en ov) 38) : w.cell? ⟨B, 0, none⟩ = some (.int .i64 now) ∧ w.cell? ⟨B, 1, none⟩ = some (.int .i64 want) ∧ w.cell? ⟨B, 2, none⟩ = some (.bool pn) ∧ w.cell? ⟨B, 3, none⟩ = some (.bool px) ∧ w.cell? ⟨B, 4, none⟩ = some (.slice va np c) ∧ w.cell? ⟨B, 5, none⟩ = some (.int .i64 nq) ∧ w.cell? ⟨B, 6, none⟩ = some (.int .i64 bz) ∧ w.cell? ⟨B, 7, none⟩ = some (.int .i64 (en 0)) ∧ w.cell? ⟨B, 8, none⟩ = some (.int .i64 (en 1)) ∧ w.cell? ⟨B, 9, none⟩ = some (.int .i64 (en 2)) ∧ w.cell? ⟨B, 10, none⟩ = some (.int .i64 (en 3)) ∧ w.cell? ⟨B, 11, none⟩ = some (.int .i64 (en 4)) ∧ w.cell? ⟨B, 12, none⟩ = some (.int .i64 (en 5)) ∧ w.cell? ⟨B, 13, none⟩ = some (.int .i64 (en 6)) ∧ w.cell? ⟨B, 14, none⟩ = some (.bool ov) := ⟨h.cell 0, h.cell 1, h.cell 2, h.cell 3, h.cell 4, h.cell 5, h.cell 6, h.cell 7, h.cell 8, h.cell 9, h.cell 10, h.cell 11, h.cell 12, h.cell 13, h.cell 14⟩
theorem z15 {w : World} {B : Nat} (h : Blk w B zcells 38) : (w.cell? ⟨B, 0, none⟩ = some (.int .i64 0) ∧ w.cell? ⟨B, 1, none⟩ = some (.int .i64 0) ∧ w.cell? ⟨B, 2, none⟩ = some (.bool false) ∧ w.cell? ⟨B, 3, none⟩ = some (.bool false) ∧ w.cell? ⟨B, 4, none⟩ = some (.slice none 0 0) ∧ w.cell? ⟨B, 5, none⟩ = some (.int .i64 0) ∧ w.cell? ⟨B, 6, none⟩ = some (.int .i64 0) ∧ w.cell? ⟨B, 7, none⟩ = some (.int .i64 0) ∧ w.cell? ⟨B, 8, none⟩ = some (.int .i64 0) ∧ w.cell? ⟨B, 9, none⟩ = some (.int .i64 0) ∧ w.cell? ⟨B, 10, none⟩ = some (.int .i64 0) ∧ w.cell? ⟨B, 11, none⟩ = some (.int .i64 0) ∧ w.cell? ⟨B, 12, none⟩ = some (.int .i64 0) ∧ w.cell? ⟨B, 13, none⟩ = some (.int .i64 0) ∧ w.cell? ⟨B, 14, none⟩ = some (.bool false)) ∧ w.frozen? ⟨B, 0, none⟩ = false ∧ w.frozen? ⟨B, 1, none⟩ = false ∧ w.frozen? ⟨B, 2, none⟩ = false ∧ w.frozen? ⟨B, 3, none⟩ = false ∧ w.frozen? ⟨B, 4, none⟩ = false ∧ w.frozen? ⟨B, 5, none⟩ = false ∧ w.frozen? ⟨B, 6, none⟩ = false ∧ w.frozen? ⟨B, 7, none⟩ = false ∧ w.frozen? ⟨B, 8, none⟩ = false ∧ w.frozen? ⟨B, 9, none⟩ = false ∧ w.frozen? ⟨B, 10, none⟩ = false ∧ w.frozen? ⟨B, 11, none⟩ = false ∧ w.frozen? ⟨B, 12, none⟩ = false ∧ w.frozen? ⟨B, 13, none⟩ = false ∧ w.frozen? ⟨B, 14, none⟩ = false := ⟨⟨h.cell 0, h.cell 1, h.cell 2, h.cell 3, h.cell 4, h.cell 5, h.cell 6, h.cell 7, h.cell 8, h.cell 9, h.cell 10, h.cell 11, h.cell 12, h.cell 13, h.cell 14⟩, h.free 0, h.free 1, h.free 2, h.free 3, h.free 4, h.free 5, h.free 6, h.free 7, h.free 8, h.free 9, h.free 10, h.free 11, h.free 12, h.free 13, h.free 14⟩
theorem set15 (w : World) (B : Nat) (v0 v1 v2 v3 v4 v5 v6 v7 v8 v9 v10 v11 v12 v13 v14 : Value) : w.setCells B 0 [v0, v1, v2, v3, v4, v5, v6, v7, v8, v9, v10, v11, v12, v13, v14] = (((((((((((((((w.setCell ⟨B, 0, none⟩ v0).setCell ⟨B, 1, none⟩ v1).setCell ⟨B, 2, none⟩ v2).setCell ⟨B, 3, none⟩ v3).setCell ⟨B, 4, none⟩ v4).setCell ⟨B, 5, none⟩ v5).setCell ⟨B, 6, none⟩ v6).setCell ⟨B, 7, none⟩ v7).setCell ⟨B, 8, none⟩ v8).setCell ⟨B, 9, none⟩ v9).setCell ⟨B, 10, none⟩ v10).setCell ⟨B, 11, none⟩ v11).setCell ⟨B, 12, none⟩ v12).setCell ⟨B, 13, none⟩ v13).setCell ⟨B, 14, none⟩ v14) := rfl
set_option maxHeartbeats 8000000 in
theorem see_any {a : At} {SS : Nat → Prop} {w0 : World} {rv tv : Value} {tn : Nat} {tx : List Value} {s : V.Sys} {w : World} (h : St a SS w0 (sca a rv tv s) rv tv tn tx s w) (hp : s.pods.length ≤ 1099511627776) (hq : s.q.length ≤ 1099511627776) (hr : s.rs.length ≤ 1000000) (hst : ∀ r, r ∈ s.rs → 0 ≤ r.st ∧ r.st ≤ 6) :
    Calls Tryz.prog 13 #[.pointer (some ⟨a.p, 0, none⟩)] w fun e w' => ∃ x : (Option Addr × Nat) × Bool, e = .returned (.agg (vs s x)) ∧ (a.E.ex → x.2 = false) ∧ Own w' (New w) 41 4 (.slice x.1.1 s.pods.length x.1.2) s.pods.length (A.cellsOf s.pods) ∧ Chg No w w' := by
  obtain ⟨w1, hw1⟩ : ∃ w1, w.alloc (.cells #[.int .i64 0, .int .i64 0, .bool false, .bool false, .slice none 0 0, .int .i64 0, .int .i64 0, .int .i64 0, .int .i64 0, .int .i64 0, .int .i64 0, .int .i64 0, .int .i64 0, .int .i64 0, .bool false] 38) = w1 := ⟨_, rfl⟩
  have cA : Chg No w w1 := by rw [← hw1]; exact (Chg.refl No w).alloc _
  have hB0 : Blk w1 w.heap.size zcells 38 := by rw [← hw1]; exact Blk.new _ _ _
  have hs1 : w.heap.size < w1.heap.size := by rw [← hw1]; simp
  have H1 := Lib.hid (h.no cA)
  have CA := Lib.hid cA
  have HB0 := Lib.hid hB0
  have HST := Lib.hid hst
  obtain ⟨C0, ho0⟩ := h.rq
  obtain ⟨vr, cr, hvr⟩ := ho0.sl
  have HO0 := Lib.hid (ho0.kept cA)
  clear h cA hB0 hst ho0
  go_enter Tryz.func13, Tryz.ntmps13
  go_wp2_with fail
  try rw [hw1]
  generalize hBB : w.heap.size = B0 at *
  have HBB := Lib.hid hBB
  clear hBB hw1
  refine see3_at (by kernel_rfl) a.p a.l a.q a.d s.now s.want s.ld.panic s.proxy s.pods.length s.q.length (Xsee a.E.ex s w1) (fun _ _ _ w' y => by rw [(H1.out.no y.1).blk.cell, sc20]) (fun _ _ _ w' y => by rw [(H1.out.no y.1).blk.cell, sc29]) (fun _ _ _ w' y => by rw [(H1.out.no y.1).blk.cell, sc27]) (fun _ _ _ w' y => by rw [(H1.out.no y.1).blk.cell, sc30])
    (fun _ _ w' y => (pods_any (H1.out.no y.1) (sc21 a rv tv s)).mono fun e w'' ⟨h1, h2⟩ => ⟨h1, y.no h2⟩) (fun x b1 w' y => ?_) (fun _ _ w' y => (waits_any (H1.out.no y.1) (sc21 a rv tv s)).mono fun e w'' ⟨h1, h2⟩ => ⟨h1, y.no h2⟩) (fun x b1 w' y => ?_) (fun _ _ w' y => (decides_any (H1.out.no y.1) (sc21 a rv tv s)).mono fun e w'' ⟨h1, h2⟩ => ⟨h1, y.no h2⟩) (fun _ _ w' y => ?_) (fun x b0 w' y => ?_) (fun x w' y => y.store) _ rfl rfl ((none, 0), (none, 0), 0, false) ⟨(Chg.refl No w1).drew, (fun h => by cases h), (fun h => by cases h), fun _ => rfl⟩ fun x w2 h2 => ?_
  · obtain ⟨C, hl, _⟩ := (H1.out.no y.1).life
    refine (A.all_any w' C a.l s.pods s.made hl hp).mono ?_
    rintro e w'' ⟨v, rfl, ho, hc⟩
    obtain ⟨va, ca', rfl⟩ := ho.sl
    exact ⟨(va, ca'), rfl, y.1.trans hc, (fun _ => ho.mono fun k _ hk => Nat.le_trans y.1.size hk), (fun hb => ⟨(y.2.2.1 hb).1, (y.2.2.1 hb).2.kept hc⟩), y.2.2.2⟩
  · obtain ⟨C, hl, _⟩ := (H1.out.no y.1).queue
    refine (B.all_any w' C a.q s.q a.dp s.ql hl hq).mono ?_
    rintro e w'' ⟨v, rfl, ho, hc⟩
    obtain ⟨va, ca', rfl⟩ := ho.sl
    exact ⟨(va, ca'), rfl, y.no hc⟩
  · obtain ⟨C, hl, _⟩ := (H1.out.no y.1).dec
    exact (a.E.over a.dv a.d _ w' C hl).mono fun e w'' ⟨b, h1, h2, h3⟩ => ⟨b, h1, (y.no h2).1, (y.no h2).2.1, (y.no h2).2.2.1, h3⟩
  · have y2 := y.no ((Chg.refl No w').alloc (.cells zcells 38))
    exact ⟨y2.1, y2.2.1, (fun _ => ⟨y.1.size, Blk.new w' _ _⟩), y2.2.2.2⟩
  obtain ⟨c2, o2, b2, e2⟩ := h2
  obtain ⟨hBw, hBk⟩ := b2 rfl
  have ho2 := o2 rfl
  obtain ⟨⟨va, vc⟩, ⟨x21, x22⟩, B, ov⟩ := x
  have HOV : Hid (a.E.ex → ov = false) := e2
  simp only [lay_see3, puts, List.setIfInBounds_toArray, List.set_cons_succ, List.set_cons_zero]
  have hBw' : w1.heap.size ≤ B := hBw
  have hBk' : Blk w2 B (vcells s.now s.want s.ld.panic s.proxy va s.pods.length vc s.q.length 0 (V.ends (s.rs.take 0)) ov) 38 := hBk
  have HO2 : Hid (Own w2 (New w1) 41 4 (.slice va s.pods.length vc) s.pods.length (A.cellsOf s.pods)) := ho2
  have C2 := Lib.hid c2
  have HBK := Lib.hid hBk'
  have c22 : w2.cell? ⟨a.p, 22, none⟩ = some (.slice vr s.rs.length cr) := by rw [(H1.out.no c2).blk.cell, sc22, hvr]
  clear c2 o2 b2 e2 hBw hBk ho2 hBk'
  go_wp2_with fail
  go_loopw [42] (fun i wr => ∃ n : Nat, n ≤ s.rs.length ∧ i = .int .i64 n ∧ Hid (Chg No w1 wr ∧ Own wr (New w1) 41 4 (.slice va s.pods.length vc) s.pods.length (A.cellsOf s.pods) ∧ Blk wr B (vcells s.now s.want s.ld.panic s.proxy va s.pods.length vc s.q.length 0 (V.ends (s.rs.take n)) ov) 38)) (fun i _ => s.rs.length - (intOf i).toNat)
  case atStart => exact ⟨0, Nat.zero_le _, rfl, C2.out, HO2.out, HBK.out⟩
  case round =>
    obtain ⟨n, hk, rfl, HR⟩ := hrel
    rename World => wr
    have hBl : B < wr.heap.size := HR.out.2.2.lt
    by_cases hlt : n < s.rs.length
    · have ho := HO0.out.kept HR.out.1
      rw [hvr] at ho
      obtain ⟨g5, o5, rfl, hS, hg, hcap, hmax⟩ := ho.some_ (by omega)
      obtain ⟨q, hqn⟩ : ∃ q, s.rs[n]? = some q := ⟨s.rs[n], List.getElem?_eq_getElem hlt⟩
      obtain ⟨b0, b1, b2, b3⟩ := req_cells ho hqn
      obtain ⟨st0, st6⟩ := HST.out q (List.mem_of_getElem? hqn)
      obtain ⟨k, hks⟩ : ∃ k : Nat, q.st = k := ⟨q.st.toNat, by omega⟩
      have hk6 : k ≤ 6 := by omega
      have hT : s.rs.take (n + 1) = s.rs.take n ++ [q] := by rw [List.take_add_one, hqn]; rfl
      obtain ⟨e0, e1⟩ := ends_nn (s.rs.take n) k
      have hel : (s.rs.take n).length ≤ 1000000 := by rw [List.length_take]; omega
      have HV := Lib.hid (vcells_add (now := s.now) (want := s.want) (pn := s.ld.panic) (px := s.proxy) (va := va) (np := s.pods.length) (c := vc) (nq := s.q.length) (bz := 0) (ov := ov) (rs := s.rs.take n) hks hk6)
      rw [← hT] at HV
      have hc := HR.out.2.2.cell (7 + k)
      have hf := HR.out.2.2.free (7 + k)
      rw [hks] at b2
      obtain ⟨en, hen⟩ : ∃ en, V.ends (s.rs.take n) k = en := ⟨_, rfl⟩
      rw [hen] at HV e0 e1
      clear ho hS hmax hT hqn st0 st6 hks
      obtain rfl | rfl | rfl | rfl | rfl | rfl | rfl : k = 0 ∨ k = 1 ∨ k = 2 ∨ k = 3 ∨ k = 4 ∨ k = 5 ∨ k = 6 := by omega
      all_goals
        have hc' := hc.trans (show _ = some (.int .i64 en) by rw [← hen]; rfl)
        simp only [Nat.add_zero, Nat.reduceAdd] at hc' hf
        clear hc hen
        go_wp2_with fail
        go_roundw
        case rel =>
          refine ⟨n + 1, by omega, by go_num, (HR.out.1.set (fun h => absurd h (by show ¬ B < _; omega)) _).alloc _, (HR.out.2.1.other HR.out.2.2 (by decide) _).alloc _, ?_⟩
          rw [← HV.out]
          exact (HR.out.2.2.set _ (.int .i64 (en + 1))).alloc _
        case measure => simp [intOf]; omega
    · obtain rfl : n = s.rs.length := by omega
      have hB0l : Blk wr B0 zcells 38 := HB0.out.kept HR.out.1
      have HF : Hid (Chg No w1 wr ∧ Own wr (New w1) 41 4 (.slice va s.pods.length vc) s.pods.length (A.cellsOf s.pods) ∧ Blk wr B (vcells s.now s.want s.ld.panic s.proxy va s.pods.length vc s.q.length 0 (V.ends s.rs) ov) 38) := by
        have := HR.out
        rwa [List.take_length] at this
      clear HR
      have hne : B0 ≠ B := by omega
      obtain ⟨k0, k1, k2, k3, k4, k5, k6, k7, k8, k9, k10, k11, k12, k13, k14⟩ := v15 HF.out.2.2
      obtain ⟨⟨z0, z1, z2, z3, z4, z5, z6, z7, z8, z9, z10, z11, z12, z13, z14⟩, g0, g1, g2, g3, g4, g5, g6, g7, g8, g9, g10, g11, g12, g13, g14⟩ := z15 hB0l
      have f6 := HF.out.2.2.free 6
      have hne2 : B ≠ B0 := fun h => hne h.symm
      have hB0w : B0 < wr.heap.size := hB0l.lt
      have HB0L := Lib.hid hB0l
      clear hB0l
      go_wp2_with fail
      clear k0 z0 g0 k1 z1 g1 k2 z2 g2 k3 z3 g3 k4 z4 g4 k5 z5 g5 k6 z6 g6 k7 z7 g7 k8 z8 g8 k9 z9 g9 k10 z10 g10 k11 z11 g11 k12 z12 g12 k13 z13 g13 k14 z14 g14 f6
      rw [← set15 (wr.setCell ⟨B, 6, none⟩ (.int .i64 (V.ends s.rs 2))) B0]
      have hB6 := HB0L.out.other (p := B) (j := 6) hne (.int .i64 (V.ends s.rs 2))
      have hBf := Blk.cells [.int .i64 s.now, .int .i64 s.want, .bool s.ld.panic, .bool s.proxy, .slice va s.pods.length vc, .int .i64 s.q.length, .int .i64 (V.ends s.rs 2), .int .i64 (V.ends s.rs 0), .int .i64 (V.ends s.rs 1), .int .i64 (V.ends s.rs 2), .int .i64 (V.ends s.rs 3), .int .i64 (V.ends s.rs 4), .int .i64 (V.ends s.rs 5), .int .i64 (V.ends s.rs 6), .bool ov] 0 hB6
      rw [aset_z s.now s.want s.ld.panic s.proxy va s.pods.length vc s.q.length (V.ends s.rs 2) (V.ends s.rs) ov] at hBf
      generalize ([.int .i64 s.now, .int .i64 s.want, .bool s.ld.panic, .bool s.proxy, .slice va s.pods.length vc, .int .i64 s.q.length, .int .i64 (V.ends s.rs 2), .int .i64 (V.ends s.rs 0), .int .i64 (V.ends s.rs 1), .int .i64 (V.ends s.rs 2), .int .i64 (V.ends s.rs 3), .int .i64 (V.ends s.rs 4), .int .i64 (V.ends s.rs 5), .int .i64 (V.ends s.rs 6), .bool ov] : List Value) = l at hBf ⊢
      have hC6 : Chg No w (wr.setCell ⟨B, 6, none⟩ (.int .i64 (V.ends s.rs 2))) := (CA.out.trans HF.out.1).set (fun h => absurd h (by have := HBB.out; show ¬ B < _; omega)) _
      have hCf := Chg.cells (B := B0) (fun h => absurd h (by have := HBB.out; omega)) l 0 hC6
      have hOf := (own_but (HF.out.2.1.other HF.out.2.2 (by decide) (.int .i64 (V.ends s.rs 2)) (j := 6)) hB6 l).mono (T := New w) fun k _ hk => Nat.le_trans (Nat.le_of_lt (by have := HBB.out; omega)) hk
      generalize (wr.setCell ⟨B, 6, none⟩ (.int .i64 (V.ends s.rs 2))).setCells B0 0 l = wf at *
      obtain ⟨r0, r1, r2, r3, r4, r5, r6, r7, r8, r9, r10, r11, r12, r13, r14⟩ := v15 hBf
      try simp only [Exit.inBlock, Exit.then]
      refine bodyPost_ret (by simp [results, Tryz.results13, go_sem, r0, r1, r2, r3, r4, r5, r6, r7, r8, r9, r10, r11, r12, r13, r14]; rfl) rfl ?_
      exact ⟨((va, vc), ov), rfl, HOV.out, hOf, hCf⟩
end Go.Proofs.YtdgphoemjeakaaaGreatDoor.Y
