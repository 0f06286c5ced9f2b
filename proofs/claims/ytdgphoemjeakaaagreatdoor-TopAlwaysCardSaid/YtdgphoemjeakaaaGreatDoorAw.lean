/- TopAlways: the walk. -/
import Derived.Test.YtdgphoemjeakaaaGreatDoorZe
import Derived.Test.YtdgphoemjeakaaaGreatDoorDa
import Derived.Test.YtdgphoemjeakaaaGreatDoorNe
import Derived.BigQuiet
import Derived.Deep.QuietTactic
namespace Go.Proofs.YtdgphoemjeakaaaGreatDoor.Y
open Go.Proofs.YtdgphoemjeakaaaGreatDoor.Rg
open Go.Proofs.YtdgphoemjeakaaaGreatDoor.Me
open Go.RowKit Go.Proofs.YtdgphoemjeakaaaGreatDoor Go.Proofs.YtdgphoemjeakaaaGreatDoor.K Go.Proofs.YtdgphoemjeakaaaGreatDoor.P Go.Proofs.YtdgphoemjeakaaaGreatDoor.U Go.Proofs.YtdgphoemjeakaaaGreatDoor.R
attribute [local go_sem ↓] exec_sto24 exec_sto38
theorem Hold.succ {a : At} {j : Nat} {s : V.Sys} (h : Hold a j s) : Hold a (j + 1) s := ⟨h.inv, h.alw, by have := h.now; omega, by have := h.len; omega⟩
theorem ld24_of {w : World} {B : Nat} {cs : Array Value} (h : rowOf w B 0 20 = some (.agg cs)) : ld24 (.pointer (some ⟨B, 0, none⟩)) w = .ok (.value (.agg cs)) w := by
  simp [ld24, h]
set_option maxHeartbeats 8000000 in
set_option maxRecDepth 100000 in
theorem always_yes (hm : Said.may) (l : Option Addr) (len cap : Nat) (K N : Nat → Int) (T : Nat → ByteArray) (w : World) (ev : In.Evs w l len K N T) (hl : len ≤ maxLen) : Calls Tryz.prog 3 #[.bool true, .slice l len cap] w fun e w' => e = .returned (.bool true) ∧ Chg No w w' := by
  have HM := Lib.hid hm
  have EV := Lib.hid ev
  clear hm ev
  have hl' : (len : Int) ≤ 9223372036854775807 := by unfold maxLen at hl; omega
  have j0 : V.Inv 10 (V.new (-1000) 1 10) := V.Inv.new (by decide) (by decide) (by decide)
  have a0 : V.Alw (-1000) (V.new (-1000) 1 10) := V.Alw.new _ _
  have l0 : (V.new (-1000) 1 10).rs.length = 0 := rfl
  have nn0 : (V.new (-1000) 1 10).now = 0 := rfl
  obtain ⟨s0, e0⟩ : ∃ s0, V.new (-1000) 1 10 = s0 := ⟨_, rfl⟩
  rw [e0] at j0 a0 l0 nn0
  have HE := Lib.hid (And.intro e0 trivial)
  have J0 := Lib.hid (And.intro j0 a0)
  clear e0 j0 a0
  go_enter Tryz.func3, Tryz.ntmps3
  go_wp2_with fail
  refine (default_any w).mono ?_
  rintro e w1 ⟨rfl, hc1⟩
  have C1 := hc1.alloc (.cells (ca 20000 1 10 3) 24)
  have hsz : w.heap.size ≤ w1.heap.size := hc1.size
  have hB := Blk.new w1 (ca 20000 1 10 3) 24
  clear hc1
  go_wp2_with fail
  rw [sto24]
  generalize w1.alloc (.cells (ca 20000 1 10 3) 24) = w2 at *
  generalize w1.heap.size = B at *
  have c13 := hB.cell 13
  have f13 := hB.free 13
  go_wp2_with fail
  have C2 := (C1.set (a := ⟨B, 13, none⟩) (fun h => absurd h (by show ¬ B < _; omega)) (.int .i64 0)).set (a := ⟨B, 13, none⟩) (fun h => absurd h (by show ¬ B < _; omega)) (.int .i64 (-1000))
  have hB2 : Blk ((w2.setCell ⟨B, 13, none⟩ (.int .i64 0)).setCell ⟨B, 13, none⟩ (.int .i64 (-1000))) B (ca (-1000) 1 10 3) 24 := (hB.set 13 _).set 13 _
  generalize (w2.setCell ⟨B, 13, none⟩ (.int .i64 0)).setCell ⟨B, 13, none⟩ (.int .i64 (-1000)) = w3 at *
  have hr := rowOf_blk hB2
  rw [ca_size] at hr
  have HC3 := Lib.hid C2
  have HB2 := Lib.hid hB2
  rw [ld24_of hr]
  clear C1 C2 hB hB2 c13 f13 hsz
  go_wp2_with fail
  have hok : P.Ok (-1000) 1 10 3 := ⟨.inl rfl, ⟨by decide, by decide⟩, ⟨by decide, by decide⟩, ⟨by decide, by decide⟩⟩
  refine (new_at HM.out (-1000) 1 10 3 hok w3).mono ?_
  rintro e w4 ⟨a, rfl, ⟨hbu, hini, hli, hrr⟩, h4⟩
  have HK : Hid (P.Ok a.bu a.ini a.li a.rd) := by
    rw [hbu, hini, hli, hrr]
    exact hok
  rw [HE.out.1] at h4
  have H4 := Lib.hid h4
  have HO : Hid (Hold a 0 s0) := ⟨by rw [hli]; exact J0.out.1, by rw [hbu]; exact J0.out.2, by omega, by omega⟩
  clear h4 hr hok
  go_wp2_with fail
  refine (Nf.few_any l len cap K N T w4 (Nf.evs_chg EV.out (HC3.out.trans H4.out.chg)) hl).mono ?_
  rintro e w5 ⟨b, rfl, hb, hc5⟩
  have H5 := Lib.hid (H4.out.no hc5)
  clear hc5 H4
  cases b with
  | false =>
    go_wp2_with fail
    refine (told_any HM.out w5).mono ?_
    rintro e w6 ⟨rfl, hc6⟩
    have HC6 := Lib.hid (HC3.out.trans (H5.out.chg.trans hc6))
    clear hc6
    go_wp2_with fail
    go_ret
    exact ⟨rfl, HC6.out⟩
  | true =>
    have hl60 : len ≤ 60 := hb rfl
    clear hb
    go_wp2_with fail
    go_loopw [8] (fun i wr => ∃ j : Nat, j ≤ len ∧ i = .int .i64 j ∧ Hid (∃ s, Aft a No w3 s wr ∧ Hold a j s)) (fun i _ => len - (intOf i).toNat)
    case atStart => exact ⟨0, Nat.zero_le _, rfl, s0, H5.out, HO.out⟩
    case round =>
      obtain ⟨j, hj, rfl, HR⟩ := hrel
      by_cases hlt : j < len
      · obtain ⟨s, hA, hH⟩ := HR.out
        have HAS := Lib.hid hA
        have HHS := Lib.hid hH
        obtain ⟨b, off, rfl, g0, g1, g2, g3⟩ := (Nf.evs_chg EV.out (HC3.out.trans hA.chg)) j hlt
        generalize K j = k0 at g0
        generalize N j = n0 at g1
        generalize T j = t0 at g2 g3
        clear hA hH HR
        go_wp2_with fail
        refine (Nf.near_any k0 n0 t0 j (by omega) _).mono ?_
        rintro e w6 ⟨k, n, t, rfl, hc6⟩
        have H6 := Lib.hid (HAS.out.no hc6)
        clear hc6 g0 g1 g2 g3 HAS
        have C0 := Lib.hid (HC3.out.trans H6.out.chg)
        by_cases k5 : k = 5
        · go_wp2_with fail
          go_roundw
          case rel => exact ⟨j + 1, by omega, by go_num, s, H6.out.no ((Chg.refl No _).alloc _), HHS.out.succ⟩
          case measure => simp [intOf]; omega
        · by_cases k4 : k = 4
          · go_wp2_with fail
            go_roundw
            case rel => exact ⟨j + 1, by omega, by go_num, s, H6.out.no ((Chg.refl No _).alloc _), HHS.out.succ⟩
            case measure => simp [intOf]; omega
          · have b5 : (k == 5) = false := beq_false_of_ne k5
            have b4 : (k == 4) = false := beq_false_of_ne k4
            go_wp2_with fail
            refine (do_any HM.out HK.out (H6.out.no ((Chg.refl No _).alloc _)) j (by omega) HHS.out k n t k4 k5).mono ?_
            rintro e w7 ⟨c, s', rfl, h7, hh⟩
            have H7 := Lib.hid h7
            have HHN := Lib.hid hh
            have hln := hh.len
            clear h7 hh H6 HHS C0
            go_wp2_with fail
            refine (see_at H7.out HHN.out.inv (by omega)).mono ?_
            rintro e w8 ⟨x, rfl, ho, hc8⟩
            have C8 := hc8.alloc (.cells (vs s' x) 38)
            have hB8 := Blk.new w8 (vs s' x) 38
            have O8 := ho.alloc (.cells (vs s' x) 38)
            have H8 := Lib.hid (H7.out.no C8)
            clear hc8 ho C8 H7
            go_wp2_with fail
            rw [sto38]
            generalize w8.alloc (.cells (vs s' x) 38) = w9 at *
            generalize w8.heap.size = BB at *
            have HB9 := Lib.hid hB8
            have HO9 := Lib.hid O8
            obtain ⟨q0, q1, q2, q3, q4, q5, q6⟩ := vs_cells hB8
            have px : s'.proxy = true := HHN.out.alw.1 hbu
            rw [px] at q3
            clear hB8 O8
            go_wp2_with fail
            clear q0 q1 q2 q3 q4 q5 q6
            have hpl : s'.pods.length ≤ 100000 := by
              have i1 := HHN.out.inv.pods.len
              have i2 := HHN.out.inv.load
              omega
            go_loopw [11, 12] (fun o i wr => ∃ (m : Nat) (b : Bool), m ≤ s'.pods.length ∧ i = .int .i64 m ∧ o = .bool b ∧ Hid (b = true → V.Up s'.pods) ∧ Hid (Chg No w9 wr)) (fun _ i _ => s'.pods.length - (intOf i).toNat)
            case atStart => exact ⟨0, false, Nat.zero_le _, rfl, rfl, (fun h => nomatch h), Chg.refl No _⟩
            case round =>
              obtain ⟨m, o, hm, rfl, rfl, HU, HC⟩ := hrel
              have hbr := HB9.out.kept HC.out
              obtain ⟨q0, q1, q2, q3, q4, q5, q6⟩ := vs_cells hbr
              by_cases hlm : m < s'.pods.length
              · obtain ⟨p, hp⟩ : ∃ p, s'.pods[m]? = some p := ⟨s'.pods[m], List.getElem?_eq_getElem hlm⟩
                have hor := HO9.out.kept HC.out
                obtain ⟨g, og, hx, -, -, -, -⟩ := hor.some_ (by omega)
                rw [hx] at hor q4
                have d1 := hor.cellAt (m * 4 + 1) (by omega)
                have d3 := hor.cellAt (m * 4 + 3) (by omega)
                rw [A.cells_at _ _ _ _ hp (by omega)] at d1 d3
                rw [← Nat.add_assoc] at d1 d3
                have e1 : wr.cell? ⟨g, og + m * 4 + 1, none⟩ = some (.int .i64 p.st) := d1
                have e3 : wr.cell? ⟨g, og + m * 4 + 3, none⟩ = some (.int .i64 p.since) := d3
                have hps := HHN.out.inv.pods.pod p (List.mem_of_getElem? hp)
                have s0 := hps.2.2.1.1
                have s1 := hps.2.2.1.2
                have s2 := HHN.out.now
                have c17 := (HB2.out.kept (H8.out.chg.trans HC.out)).cell 17
                have c17' : wr.cell? ⟨B, 17, none⟩ = some (.int .i64 3) := c17
                have HP := Lib.hid hp
                clear hbr hor d1 d3 hps hp c17 q1 q2 q3 q5 q6
                cases o with
                | true =>
                  go_wp2_with fail
                  go_quiet (fail)
                  go_wp2_with fail
                  go_roundw
                  case rel => exact ⟨m + 1, true, by omega, by go_num, rfl, (fun _ => HU.out trivial), HC.out.drewN _⟩
                  case measure => simp [intOf]; omega
                | false =>
                  by_cases h2 : p.st = 2
                  · have b2 : (p.st == 2) = true := by simp [h2]
                    go_wp2_with fail
                    go_quiet (fail)
                    go_wp2_with fail
                    go_roundw
                    case rel => exact ⟨m + 1, _, by omega, by go_num, rfl, (fun _ => ⟨p, List.mem_of_getElem? HP.out, h2⟩), HC.out.drewN _⟩
                    case measure => simp [intOf]; omega
                  · have b2 : (p.st == 2) = false := beq_false_of_ne h2
                    go_wp2_with fail
                    go_quiet (fail)
                    go_wp2_with fail
                    go_roundw
                    case rel => exact ⟨m + 1, false, by omega, by go_num, rfl, (fun h => nomatch h), HC.out.drewN _⟩
                    case measure => simp [intOf]; omega
              · have H9 := Lib.hid (H8.out.no HC.out)
                clear hbr q1 q2 q5 q6
                go_wp2_with fail
                go_roundw
                case rel => exact ⟨j + 1, by omega, by go_num, s', H9.out, HHN.out⟩
                case measure => simp [intOf]; omega
      · go_wp2_with fail
        obtain ⟨s, hA, hH⟩ := HR.out
        refine (told_any HM.out wr).mono ?_
        rintro e w6 ⟨rfl, hc6⟩
        have HC6 := Lib.hid (HC3.out.trans (hA.chg.trans hc6))
        clear hc6 hA hH
        go_wp2_with fail
        go_ret
        exact ⟨rfl, HC6.out⟩
set_option maxHeartbeats 8000000 in
set_option maxRecDepth 100000 in
theorem always_no (hm : Said.may) (l : Option Addr) (len cap : Nat) (K N : Nat → Int) (T : Nat → ByteArray) (w : World) (ev : In.Evs w l len K N T) (hl : len ≤ maxLen) : Calls Tryz.prog 3 #[.bool false, .slice l len cap] w fun e w' => e = .returned (.bool true) ∧ Chg No w w' := by
  have HM := Lib.hid hm
  have EV := Lib.hid ev
  clear hm ev
  have hl' : (len : Int) ≤ 9223372036854775807 := by unfold maxLen at hl; omega
  have j0 : V.Inv 10 (V.new 0 1 10) := V.Inv.new (by decide) (by decide) (by decide)
  have a0 : V.Alw 0 (V.new 0 1 10) := V.Alw.new _ _
  have l0 : (V.new 0 1 10).rs.length = 0 := rfl
  have nn0 : (V.new 0 1 10).now = 0 := rfl
  obtain ⟨s0, e0⟩ : ∃ s0, V.new 0 1 10 = s0 := ⟨_, rfl⟩
  rw [e0] at j0 a0 l0 nn0
  have HE := Lib.hid (And.intro e0 trivial)
  have J0 := Lib.hid (And.intro j0 a0)
  clear e0 j0 a0
  go_enter Tryz.func3, Tryz.ntmps3
  go_wp2_with fail
  refine (default_any w).mono ?_
  rintro e w1 ⟨rfl, hc1⟩
  have C1 := hc1.alloc (.cells (ca 20000 1 10 3) 24)
  have hsz : w.heap.size ≤ w1.heap.size := hc1.size
  have hB := Blk.new w1 (ca 20000 1 10 3) 24
  clear hc1
  go_wp2_with fail
  rw [sto24]
  generalize w1.alloc (.cells (ca 20000 1 10 3) 24) = w2 at *
  generalize w1.heap.size = B at *
  have c13 := hB.cell 13
  have f13 := hB.free 13
  go_wp2_with fail
  have C2 := C1.set (a := ⟨B, 13, none⟩) (fun h => absurd h (by show ¬ B < _; omega)) (.int .i64 0)
  have hB2 : Blk (w2.setCell ⟨B, 13, none⟩ (.int .i64 0)) B (ca 0 1 10 3) 24 := hB.set 13 _
  generalize w2.setCell ⟨B, 13, none⟩ (.int .i64 0) = w3 at *
  have hr := rowOf_blk hB2
  rw [ca_size] at hr
  have HC3 := Lib.hid C2
  have HB2 := Lib.hid hB2
  rw [ld24_of hr]
  clear C1 C2 hB hB2 c13 f13 hsz
  go_wp2_with fail
  have hok : P.Ok 0 1 10 3 := ⟨.inr ⟨by decide, by decide⟩, ⟨by decide, by decide⟩, ⟨by decide, by decide⟩, ⟨by decide, by decide⟩⟩
  refine (new_at HM.out 0 1 10 3 hok w3).mono ?_
  rintro e w4 ⟨a, rfl, ⟨hbu, hini, hli, hrr⟩, h4⟩
  have HK : Hid (P.Ok a.bu a.ini a.li a.rd) := by
    rw [hbu, hini, hli, hrr]
    exact hok
  rw [HE.out.1] at h4
  have H4 := Lib.hid h4
  have HO : Hid (Hold a 0 s0) := ⟨by rw [hli]; exact J0.out.1, by rw [hbu]; exact J0.out.2, by omega, by omega⟩
  clear h4 hr hok
  go_wp2_with fail
  refine (Nf.few_any l len cap K N T w4 (Nf.evs_chg EV.out (HC3.out.trans H4.out.chg)) hl).mono ?_
  rintro e w5 ⟨b, rfl, hb, hc5⟩
  have H5 := Lib.hid (H4.out.no hc5)
  clear hc5 H4
  cases b with
  | false =>
    go_wp2_with fail
    refine (told_any HM.out w5).mono ?_
    rintro e w6 ⟨rfl, hc6⟩
    have HC6 := Lib.hid (HC3.out.trans (H5.out.chg.trans hc6))
    clear hc6
    go_wp2_with fail
    go_ret
    exact ⟨rfl, HC6.out⟩
  | true =>
    have hl60 : len ≤ 60 := hb rfl
    clear hb
    go_wp2_with fail
    go_loopw [8] (fun i wr => ∃ j : Nat, j ≤ len ∧ i = .int .i64 j ∧ Hid (∃ s, Aft a No w3 s wr ∧ Hold a j s)) (fun i _ => len - (intOf i).toNat)
    case atStart => exact ⟨0, Nat.zero_le _, rfl, s0, H5.out, HO.out⟩
    case round =>
      obtain ⟨j, hj, rfl, HR⟩ := hrel
      by_cases hlt : j < len
      · obtain ⟨s, hA, hH⟩ := HR.out
        have HAS := Lib.hid hA
        have HHS := Lib.hid hH
        obtain ⟨b, off, rfl, g0, g1, g2, g3⟩ := (Nf.evs_chg EV.out (HC3.out.trans hA.chg)) j hlt
        generalize K j = k0 at g0
        generalize N j = n0 at g1
        generalize T j = t0 at g2 g3
        clear hA hH HR
        go_wp2_with fail
        refine (Nf.near_any k0 n0 t0 j (by omega) _).mono ?_
        rintro e w6 ⟨k, n, t, rfl, hc6⟩
        have H6 := Lib.hid (HAS.out.no hc6)
        clear hc6 g0 g1 g2 g3 HAS
        have C0 := Lib.hid (HC3.out.trans H6.out.chg)
        by_cases k5 : k = 5
        · go_wp2_with fail
          go_roundw
          case rel => exact ⟨j + 1, by omega, by go_num, s, H6.out.no ((Chg.refl No _).alloc _), HHS.out.succ⟩
          case measure => simp [intOf]; omega
        · by_cases k4 : k = 4
          · go_wp2_with fail
            go_roundw
            case rel => exact ⟨j + 1, by omega, by go_num, s, H6.out.no ((Chg.refl No _).alloc _), HHS.out.succ⟩
            case measure => simp [intOf]; omega
          · have b5 : (k == 5) = false := beq_false_of_ne k5
            have b4 : (k == 4) = false := beq_false_of_ne k4
            go_wp2_with fail
            refine (do_any HM.out HK.out (H6.out.no ((Chg.refl No _).alloc _)) j (by omega) HHS.out k n t k4 k5).mono ?_
            rintro e w7 ⟨c, s', rfl, h7, hh⟩
            have H7 := Lib.hid h7
            have HHN := Lib.hid hh
            have hln := hh.len
            clear h7 hh H6 HHS C0
            go_wp2_with fail
            refine (see_at H7.out HHN.out.inv (by omega)).mono ?_
            rintro e w8 ⟨x, rfl, ho, hc8⟩
            have C8 := hc8.alloc (.cells (vs s' x) 38)
            have hB8 := Blk.new w8 (vs s' x) 38
            have O8 := ho.alloc (.cells (vs s' x) 38)
            have H8 := Lib.hid (H7.out.no C8)
            clear hc8 ho C8 H7
            go_wp2_with fail
            rw [sto38]
            generalize w8.alloc (.cells (vs s' x) 38) = w9 at *
            generalize w8.heap.size = BB at *
            have HB9 := Lib.hid hB8
            have HO9 := Lib.hid O8
            obtain ⟨q0, q1, q2, q3, q4, q5, q6⟩ := vs_cells hB8
            have UP := Lib.hid (HHN.out.alw.2 hbu)
            clear hB8 O8
            go_wp2_with fail
            clear q0 q1 q2 q3 q4 q5 q6
            have hpl : s'.pods.length ≤ 100000 := by
              have i1 := HHN.out.inv.pods.len
              have i2 := HHN.out.inv.load
              omega
            go_loopw [11, 12] (fun o i wr => ∃ (m : Nat) (b : Bool), m ≤ s'.pods.length ∧ i = .int .i64 m ∧ o = .bool b ∧ Hid (b = true → V.Up s'.pods) ∧ Hid (Chg No w9 wr)) (fun _ i _ => s'.pods.length - (intOf i).toNat)
            case atStart => exact ⟨0, false, Nat.zero_le _, rfl, rfl, (fun h => nomatch h), Chg.refl No _⟩
            case round =>
              obtain ⟨m, o, hm, rfl, rfl, HU, HC⟩ := hrel
              have hbr := HB9.out.kept HC.out
              obtain ⟨q0, q1, q2, q3, q4, q5, q6⟩ := vs_cells hbr
              by_cases hlm : m < s'.pods.length
              · obtain ⟨p, hp⟩ : ∃ p, s'.pods[m]? = some p := ⟨s'.pods[m], List.getElem?_eq_getElem hlm⟩
                have hor := HO9.out.kept HC.out
                obtain ⟨g, og, hx, -, -, -, -⟩ := hor.some_ (by omega)
                rw [hx] at hor q4
                have d1 := hor.cellAt (m * 4 + 1) (by omega)
                have d3 := hor.cellAt (m * 4 + 3) (by omega)
                rw [A.cells_at _ _ _ _ hp (by omega)] at d1 d3
                rw [← Nat.add_assoc] at d1 d3
                have e1 : wr.cell? ⟨g, og + m * 4 + 1, none⟩ = some (.int .i64 p.st) := d1
                have e3 : wr.cell? ⟨g, og + m * 4 + 3, none⟩ = some (.int .i64 p.since) := d3
                have hps := HHN.out.inv.pods.pod p (List.mem_of_getElem? hp)
                have s0 := hps.2.2.1.1
                have s1 := hps.2.2.1.2
                have s2 := HHN.out.now
                have c17 := (HB2.out.kept (H8.out.chg.trans HC.out)).cell 17
                have c17' : wr.cell? ⟨B, 17, none⟩ = some (.int .i64 3) := c17
                have HP := Lib.hid hp
                clear hbr hor d1 d3 hps hp c17 q1 q2 q3 q5 q6
                cases o with
                | true =>
                  go_wp2_with fail
                  go_quiet (fail)
                  go_wp2_with fail
                  go_roundw
                  case rel => exact ⟨m + 1, true, by omega, by go_num, rfl, (fun _ => HU.out trivial), HC.out.drewN _⟩
                  case measure => simp [intOf]; omega
                | false =>
                  by_cases h2 : p.st = 2
                  · have b2 : (p.st == 2) = true := by simp [h2]
                    go_wp2_with fail
                    go_quiet (fail)
                    go_wp2_with fail
                    go_roundw
                    case rel => exact ⟨m + 1, _, by omega, by go_num, rfl, (fun _ => ⟨p, List.mem_of_getElem? HP.out, h2⟩), HC.out.drewN _⟩
                    case measure => simp [intOf]; omega
                  · have b2 : (p.st == 2) = false := beq_false_of_ne h2
                    go_wp2_with fail
                    go_quiet (fail)
                    go_wp2_with fail
                    go_roundw
                    case rel => exact ⟨m + 1, false, by omega, by go_num, rfl, (fun h => nomatch h), HC.out.drewN _⟩
                    case measure => simp [intOf]; omega
              · have H9 := Lib.hid (H8.out.no HC.out)
                clear hbr q1 q2 q5 q6
                cases o with
                | true =>
                  have px : s'.proxy = false := UP.out (HU.out rfl)
                  rw [px] at q3
                  go_wp2_with fail
                  go_roundw
                  case rel => exact ⟨j + 1, by omega, by go_num, s', H9.out, HHN.out⟩
                  case measure => simp [intOf]; omega
                | false =>
                  go_wp2_with fail
                  go_roundw
                  case rel => exact ⟨j + 1, by omega, by go_num, s', H9.out, HHN.out⟩
                  case measure => simp [intOf]; omega
      · go_wp2_with fail
        obtain ⟨s, hA, hH⟩ := HR.out
        refine (told_any HM.out wr).mono ?_
        rintro e w6 ⟨rfl, hc6⟩
        have HC6 := Lib.hid (HC3.out.trans (hA.chg.trans hc6))
        clear hc6 hA hH
        go_wp2_with fail
        go_ret
        exact ⟨rfl, HC6.out⟩
theorem always_any (al : Bool) (l : Option Addr) (len cap : Nat) (K N : Nat → Int) (T : Nat → ByteArray) (w : World) (ev : In.Evs w l len K N T) (hl : len ≤ maxLen) : Calls Tryz.prog 3 #[.bool al, .slice l len cap] w fun e w' => e = .returned (.bool true) ∧ Chg No w w' := by
  cases al
  · exact always_no W.may_any l len cap K N T w ev hl
  · exact always_yes W.may_any l len cap K N T w ev hl
end Go.Proofs.YtdgphoemjeakaaaGreatDoor.Y
