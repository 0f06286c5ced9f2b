/- TopDrains: the walk. -/
import Derived.Test.YtdgphoemjeakaaaGreatDoorR32
import Derived.Test.YtdgphoemjeakaaaGreatDoorR38
import Derived.Test.YtdgphoemjeakaaaGreatDoorR19
import Derived.Test.YtdgphoemjeakaaaGreatDoorR39
import Derived.BigQuiet
import Derived.Deep.QuietTactic
namespace Go.Proofs.YtdgphoemjeakaaaGreatDoor.Y
open Rg
open Go.RowKit K P U Mg Wk
set_option maxRecDepth 100000
attribute [local go_sem ↓] exec_sto24 exec_sto38
attribute [local go_sem] sto24
set_option maxHeartbeats 8000000 in
theorem new_no (v : Nat → Int) (may : mayB v = false) (w : World) : Calls Tryz.prog 8 #[.agg (cf v)] w fun e w' => e = .returned (.tuple #[.pointer none, .int .i64 1]) ∧ Chg No w w' := by
  have HM := Lib.hid (fun w => Mg.may_any v w)
  rw [may] at HM
  clear may
  go_enter Tryz.func8, Tryz.ntmps8
  go_wp2_with fail
  have hr := rowOf_blk (Blk.new w (cf v) 24)
  rw [cf_size] at hr
  have HC := Lib.hid ((Chg.refl No w).alloc (.cells (cf v) 24))
  generalize w.alloc (.cells (cf v) 24) = w1 at *
  generalize w.heap.size = X0 at *
  go_wp2_with (first | (go_at_call 16; refine (HM.out _).mono ?_; rintro e w2 ⟨rfl, hc⟩))
  have HC2 := Lib.hid (HC.out.trans hc)
  clear hc
  go_ret2
  exact ⟨rfl, HC2.out⟩
set_option maxHeartbeats 8000000 in
theorem drains_no (v : Nat → Int) (may : mayB v = false) (l : Option Addr) (len cap : Nat) (w : World) : Calls Tryz.prog 6 #[.agg (cf v), .slice l len cap] w fun e w' => e = .returned (.bool true) ∧ Chg No w w' := by
  have HN := Lib.hid (fun w => new_no v may w)
  have HM := Lib.hid may
  clear may
  go_enter Tryz.func6, Tryz.ntmps6
  go_wp2_with fail
  have hB := Lib.hid (Blk.new w (cf v) 24)
  have hr := rowOf_blk (Blk.new w (cf v) 24)
  rw [cf_size] at hr
  have HC := Lib.hid ((Chg.refl No w).alloc (.cells (cf v) 24))
  generalize w.alloc (.cells (cf v) 24) = w1 at *
  generalize w.heap.size = X0 at *
  go_wp2_with (first | (go_at_call 8; refine (HN.out _).mono ?_; rintro e w2 ⟨rfl, hc⟩))
  have HC2 := Lib.hid (HC.out.trans hc)
  have HB2 := Lib.hid (hB.out.kept hc)
  clear hc hr HN HC hB
  refine (told_true w2).mono ?_
  rintro e w3 ⟨rfl, hc⟩
  have hr := rowOf_blk (HB2.out.kept hc)
  rw [cf_size] at hr
  have HC3 := Lib.hid (HC2.out.trans hc)
  clear hc HB2 HC2
  go_wp2_with (first | (go_at_call 15; refine (Mg.ref_may _ _).mono ?_; rintro e w4 ⟨rfl, hc⟩))
  have HC4 := Lib.hid (HC3.out.trans hc)
  rw [HM.out]
  clear hc hr HC3
  go_wp2_with fail
  go_ret
  exact ⟨rfl, HC4.out⟩
def Srv (p : Nat) (w1 : World) (j : Nat) (w : World) : Prop := ∃ (a : At) (s : V.Sys), a.E = loose ∧ a.p = p ∧ Inv a s ∧ s.now ≤ 200 * j ∧ s.rs.length ≤ 100 * j ∧ Aft a No w1 s w
theorem Srv.chg {p : Nat} {w1 w : World} {j : Nat} (h : Srv p w1 j w) : Chg No w1 w := by
  obtain ⟨_, _, _, _, _, _, _, h⟩ := h
  exact h.chg
theorem Srv.no {p : Nat} {w1 w w' : World} {j : Nat} (h : Srv p w1 j w) (c : Chg No w w') : Srv p w1 j w' := by
  obtain ⟨a, s, h1, h2, h3, h4, h5, h6⟩ := h
  exact ⟨a, s, h1, h2, h3, h4, h5, h6.no c⟩
theorem Srv.succ {p : Nat} {w1 w : World} {j : Nat} (h : Srv p w1 j w) : Srv p w1 (j + 1) w := by
  obtain ⟨a, s, h1, h2, h3, h4, h5, h6⟩ := h
  exact ⟨a, s, h1, h2, h3, by omega, by omega, h6⟩
theorem srv_do {p : Nat} {w1 w : World} {j : Nat} (h : Srv p w1 j w) (hj : j < 60) (k n : Int) (t : ByteArray) (h4 : k ≠ 4) (m : Int) (hm : w.cell? ⟨0, 0, none⟩ = some (.int .i64 m)) : Calls Tryz.prog 12 #[.pointer (some ⟨p, 0, none⟩), evt k n t] w fun e w' => ∃ c : Int, e = .returned (.int .i64 c) ∧ Srv p w1 (j + 1) w' := by
  obtain ⟨a, s, h1, rfl, h3, h5, h6, h7⟩ := h
  refine (do_all h1 h7 h3 k n t h4 (by omega) (by omega) m hm).mono fun e w' ⟨c, he, a', s', g1, g2, g3, g4, g5, g6⟩ => ⟨c, he, a', s', g1, g2, g3, by omega, by omega, g6⟩
theorem found_at {ps : List M.Pod} {rs : List V.Req} (h : V.Rl ps rs) {q : V.Req} {i : Nat} (hq : rs[i]? = some q) {b : Bool} (h1 : q.st ≠ 2 → b = true) (h2 : ∀ (j : Nat) (x : M.Pod), j < ps.length → ps[j]? = some x → x.id = q.pod → b = true) : b = true := by
  by_cases h3 : q.st = 2
  · obtain ⟨x, hx, he⟩ := h.at_ q (List.mem_of_getElem? hq) h3
    obtain ⟨j, hj⟩ := List.getElem?_of_mem hx
    exact h2 j x (List.getElem?_eq_some_iff.1 hj).1 hj he
  · exact h1 h3
theorem ends6 {rs : List V.Req} (h : ∀ r, r ∈ rs → r.st ≠ 6) : V.ends rs 6 = 0 := by
  unfold V.ends
  rw [List.filter_eq_nil_iff.2 fun r hr => by simp [h r hr]]
  rfl
set_option maxHeartbeats 16000000 in
theorem drains_yes (v : Nat → Int) (may : mayB v = true) (l : Option Addr) (len cap : Nat) (K N : Nat → Int) (T : Nat → ByteArray) (w : World) (ev : In.Evs w l len K N T) (hl : len ≤ maxLen) (m : Int) (hm : w.cell? ⟨0, 0, none⟩ = some (.int .i64 m)) : Calls Tryz.prog 6 #[.agg (cf v), .slice l len cap] w fun e w' => e = .returned (.bool true) ∧ Chg No w w' := by
  have HN := Lib.hid (fun w => new_any loose v may (fun h => h.elim) w)
  have HM := Lib.hid may
  have HMX := Lib.hid hm
  have EV := Lib.hid ev
  have hl' : (len : Int) ≤ 9223372036854775807 := by unfold maxLen at hl; omega
  clear may ev hm
  go_enter Tryz.func6, Tryz.ntmps6
  go_wp2_with fail
  have hB := Lib.hid (Blk.new w (cf v) 24)
  have hr := rowOf_blk (Blk.new w (cf v) 24)
  rw [cf_size] at hr
  have HC := Lib.hid ((Chg.refl No w).alloc (.cells (cf v) 24))
  generalize w.alloc (.cells (cf v) 24) = w1 at *
  generalize w.heap.size = X0 at *
  go_wp2_with (first | (go_at_call 8; refine (HN.out _).mono ?_; rintro e w2 ⟨a, s0, rfl, ha, h2, i2, n2, l2, -⟩))
  have H2 := Lib.hid h2
  have HS2 : Hid (Srv a.p w1 0 w2) := ⟨a, s0, ha, rfl, i2, by omega, by omega, h2⟩
  clear h2 i2 ha n2 l2 hr HN
  generalize a.p = p at *
  have C2 := Lib.hid (HC.out.trans H2.out.chg)
  have HB2 := Lib.hid (hB.out.kept H2.out.chg)
  clear H2 hB
  refine (Nf.few_any l len cap K N T w2 (Nf.evs_chg EV.out C2.out) hl).mono ?_
  rintro e w3 ⟨b, rfl, hb, hc3⟩
  have H3 := Lib.hid (HS2.out.no hc3)
  have C3 := Lib.hid (C2.out.trans hc3)
  have HB3 := Lib.hid (HB2.out.kept hc3)
  clear hc3 HS2 C2 HB2
  cases b with
  | false =>
    go_wp2_with fail
    refine (told_true w3).mono ?_
    rintro e w4 ⟨rfl, hc4⟩
    have hr := rowOf_blk (HB3.out.kept hc4)
    rw [cf_size] at hr
    have C4 := Lib.hid (C3.out.trans hc4)
    clear hc4 H3 HB3
    go_wp2_with (first | (go_at_call 15; refine (Mg.ref_may _ _).mono ?_; rintro e w5 ⟨rfl, hc⟩))
    have C5 := Lib.hid (C4.out.trans hc)
    rw [HM.out]
    clear hc hr C4
    go_wp2_with fail
    go_ret
    exact ⟨rfl, C5.out⟩
  | true =>
    have hl60 : len ≤ 60 := hb rfl
    clear hb HB3
    go_wp2_with fail
    go_loopw [7] (fun i wr => ∃ j : Nat, j ≤ len ∧ i = .int .i64 j ∧ Hid (Srv p w1 j wr)) (fun i _ => len - (intOf i).toNat)
    case atStart => exact ⟨0, Nat.zero_le _, rfl, H3.out⟩
    case round =>
      obtain ⟨j, hj, rfl, HR⟩ := hrel
      have CR := Lib.hid (HC.out.trans HR.out.chg)
      by_cases hlt : j < len
      · obtain ⟨b, off, rfl, g0, g1, g2, g3⟩ := (Nf.evs_chg EV.out CR.out) j hlt
        generalize K j = k0 at g0
        generalize N j = n0 at g1
        generalize T j = t0 at g2 g3
        go_wp2_with fail
        refine (Nf.near_any k0 n0 t0 j (by omega) _).mono ?_
        rintro e w6 ⟨k, n, t, rfl, hc6⟩
        have H6 := Lib.hid (HR.out.no (hc6.alloc (.cells #[.int .i64 k, .int .i64 n, .string t] 32)))
        have hm6 := Nf.cell_chg (CR.out.trans (hc6.alloc (.cells #[.int .i64 k, .int .i64 n, .string t] 32))) HMX.out
        have HM6 := Lib.hid hm6
        clear hc6 g0 g1 g2 g3 HR CR hm6
        by_cases k4 : k = 4
        · have b4 : (k != 4) = false := by simp [k4]
          go_wp2_with fail
          go_roundw
          case rel => exact ⟨j + 1, by omega, by go_num, by first | exact H6.out.succ | (subst k4; exact H6.out.succ)⟩
          case measure => simp [intOf]; omega
        · have b4 : (k != 4) = true := by simp [k4]
          have HK4 := Lib.hid k4
          go_wp2_with fail
          refine (srv_do H6.out (by omega) k n t HK4.out m HM6.out).mono ?_
          rintro e w7 ⟨c, rfl, h7⟩
          have H7 := Lib.hid h7
          clear h7 H6 HM6
          go_wp2_with fail
          go_roundw
          case rel => exact ⟨j + 1, by omega, by go_num, H7.out⟩
          case measure => simp [intOf]; omega
      · obtain rfl : j = len := by omega
        obtain ⟨a, s, -, rfl, inv, hn, hr, hA⟩ := HR.out
        have HI := Lib.hid inv
        have HA := Lib.hid hA
        clear HR inv hA
        go_wp2_with fail
        refine (see_at HA.out HI.out (by omega)).mono ?_
        rintro e w8 ⟨x, rfl, ho, hc8⟩
        have C8 := hc8.alloc (.cells (vs s x) 38)
        have hB8 := Blk.new w8 (vs s x) 38
        have O8 := ho.alloc (.cells (vs s x) 38)
        have H8 := Lib.hid (HA.out.no C8)
        have CC8 := Lib.hid (HC.out.trans (HA.out.chg.trans C8))
        clear hc8 ho C8 HA
        go_wp2_with fail
        rw [show (#[.int .i64 0, .int .i64 0, .bool false, .bool false, .slice none 0 0, .int .i64 0, .int .i64 0, .int .i64 0, .int .i64 0, .int .i64 0, .int .i64 0, .int .i64 0, .int .i64 0, .int .i64 0, .bool false] : Array Value) = zcells from rfl, sto38]
        generalize w8.alloc (.cells (vs s x) 38) = w9 at *
        generalize w8.heap.size = BB at *
        have HB9 := Lib.hid hB8
        have HO9 := Lib.hid O8
        clear hB8 O8
        go_wp2_with fail
        obtain ⟨rv, tv, tn, htn, tx, hst⟩ := H8.out
        refine (requests_any hst (by omega)).mono ?_
        rintro e w10 ⟨vr, rfl, hor, hc10⟩
        obtain ⟨va, ca, rfl⟩ := hor.sl
        have HR10 := Lib.hid hor
        have HB10 := Lib.hid (HB9.out.kept hc10)
        have HO10 := Lib.hid (HO9.out.kept hc10)
        have CC10 := Lib.hid (CC8.out.trans hc10)
        have HRL := Lib.hid HI.out.pl.rl
        have HE6 := Lib.hid (ends6 HI.out.pl.no6)
        have hpl : s.pods.length ≤ 1000000 := by
          have i1 := HI.out.pl.ok.pods.len
          have i2 := HI.out.pl.ok.load
          omega
        have hrl : s.rs.length ≤ 1000000 := by omega
        clear hst hor hc10 HB9 HO9 CC8 HI hn hr
        go_wp2_with fail
        go_loopw [11] (fun i wr => ∃ j : Nat, j ≤ s.rs.length ∧ i = .int .i64 j ∧ Hid (Chg No w10 wr)) (fun i _ => s.rs.length - (intOf i).toNat)
        case atStart => exact ⟨0, Nat.zero_le _, rfl, Chg.refl No _⟩
        case round =>
          rename World => wr2
          obtain ⟨j2, hj2, rfl, HCH⟩ := hrel
          by_cases hlt2 : j2 < s.rs.length
          · obtain ⟨q, hq⟩ : ∃ q, s.rs[j2]? = some q := ⟨s.rs[j2], List.getElem?_eq_getElem hlt2⟩
            obtain ⟨g, o, rfl, -, -, -, -⟩ := HR10.out.some_ (by omega)
            obtain ⟨b0, b1, b2, b3⟩ := req_cells (HR10.out.kept HCH.out) hq
            have HQ := Lib.hid hq
            clear hq b0 b1 b3
            go_wp2_with fail
            go_loopw [12, 13] (fun o i wr => ∃ (m2 : Nat) (b : Bool), m2 ≤ s.pods.length ∧ i = .int .i64 m2 ∧ o = .bool b ∧ Hid ((q.st ≠ 2 → b = true) ∧ ∀ (j : Nat) (y : M.Pod), j < m2 → s.pods[j]? = some y → y.id = q.pod → b = true) ∧ Hid (Chg No w10 wr)) (fun _ i _ => s.pods.length - (intOf i).toNat)
            case atStart => exact ⟨0, q.st != 2, Nat.zero_le _, rfl, rfl, ⟨(fun h => by simp [h]), (fun j y hj => by omega)⟩, HCH.out⟩
            case round =>
              rename World => wr3
              obtain ⟨m2, o2, hm2, rfl, rfl, HU, HC3⟩ := hrel
              obtain ⟨-, -, -, -, q4, -, -⟩ := vs_cells (HB10.out.kept HC3.out)
              by_cases hlm : m2 < s.pods.length
              · obtain ⟨y, hy⟩ : ∃ y, s.pods[m2]? = some y := ⟨s.pods[m2], List.getElem?_eq_getElem hlm⟩
                have hop := HO10.out.kept HC3.out
                obtain ⟨gp, op, hx, -, -, -, -⟩ := hop.some_ (by omega)
                rw [hx] at hop q4
                obtain ⟨p0, -, -, -⟩ := A.pods_cells hop hy
                obtain ⟨-, -, -, c3⟩ := req_cells (HR10.out.kept HC3.out) HQ.out
                have HY := Lib.hid hy
                clear hop hy b2
                cases o2 with
                | true =>
                  go_wp2_with fail
                  go_quiet (fail)
                  go_wp2_with fail
                  go_roundw
                  case rel => exact ⟨m2 + 1, true, by omega, by go_num, rfl, ⟨(fun _ => rfl), (fun _ _ _ _ _ => rfl)⟩, HC3.out.drewN _⟩
                  case measure => simp [intOf]; omega
                | false =>
                  by_cases hid : y.id = q.pod
                  · have b5 : (y.id == q.pod) = true := by simp [hid]
                    go_wp2_with fail
                    go_quiet (fail)
                    go_wp2_with fail
                    go_roundw
                    case rel => exact ⟨m2 + 1, true, by omega, by go_num, by first | rfl | simp [hid], ⟨(fun _ => rfl), (fun _ _ _ _ _ => rfl)⟩, HC3.out.drewN _⟩
                    case measure => simp [intOf]; omega
                  · have b5 : (y.id == q.pod) = false := by simp [hid]
                    have HU2 : Hid ((q.st ≠ 2 → false = true) ∧ ∀ (j : Nat) (z : M.Pod), j < m2 + 1 → s.pods[j]? = some z → z.id = q.pod → false = true) := ⟨HU.out.1, fun j z hj hz he => by
                      by_cases e : j = m2
                      · subst e
                        rw [HY.out] at hz
                        cases hz
                        exact absurd he hid
                      · exact HU.out.2 j z (by omega) hz he⟩
                    clear hid
                    go_wp2_with fail
                    go_quiet (fail)
                    go_wp2_with fail
                    go_roundw
                    case rel => exact ⟨m2 + 1, false, by omega, by go_num, by first | rfl | simp [b5], HU2, HC3.out.drewN _⟩
                    case measure => simp [intOf]; omega
              · obtain rfl : m2 = s.pods.length := by omega
                obtain rfl : o2 = true := found_at HRL.out HQ.out HU.out.1 HU.out.2
                clear b2
                go_wp2_with fail
                go_roundw
                case rel => exact ⟨j2 + 1, by omega, by go_num, HC3.out⟩
                case measure => simp [intOf]; omega
          · obtain rfl : j2 = s.rs.length := by omega
            have hB11 := HB10.out.kept HCH.out
            obtain ⟨-, -, -, -, r13⟩ := vs_ends hB11
            rw [HE6.out] at r13
            have CC11 := Lib.hid (CC10.out.trans HCH.out)
            go_wp2_with fail
            refine (told_true _).mono ?_
            rintro e w12 ⟨rfl, hc12⟩
            have r14 : w12.cell? ⟨BB, 13, none⟩ = some (.int .i64 0) := Nf.cell_chg hc12 r13
            have CC12 := Lib.hid (CC11.out.trans hc12)
            clear hc12 r13 hB11
            go_wp2_with fail
            go_ret
            exact ⟨rfl, CC12.out⟩
theorem drains_any (v : Nat → Int) (l : Option Addr) (len cap : Nat) (K N : Nat → Int) (T : Nat → ByteArray) (w : World) (ev : In.Evs w l len K N T) (hl : len ≤ maxLen) (m : Int) (hm : w.cell? ⟨0, 0, none⟩ = some (.int .i64 m)) : Calls Tryz.prog 6 #[.agg (cf v), .slice l len cap] w fun e w' => e = .returned (.bool true) ∧ Chg No w w' := by
  cases may : mayB v with
  | false => exact drains_no v may l len cap w
  | true => exact drains_yes v may l len cap K N T w ev hl m hm
end Go.Proofs.YtdgphoemjeakaaaGreatDoor.Y
