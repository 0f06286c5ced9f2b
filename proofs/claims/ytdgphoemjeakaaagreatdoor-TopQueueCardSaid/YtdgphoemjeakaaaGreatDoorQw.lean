/- TopQueue: the walk. -/
import Derived.Test.YtdgphoemjeakaaaGreatDoorSw
import Derived.Test.YtdgphoemjeakaaaGreatDoorQv
namespace Go.Proofs.YtdgphoemjeakaaaGreatDoor.Y
open Go.Proofs.YtdgphoemjeakaaaGreatDoor.Rg
open Go.Proofs.YtdgphoemjeakaaaGreatDoor.Me
open Go.RowKit Go.Proofs.YtdgphoemjeakaaaGreatDoor Go.Proofs.YtdgphoemjeakaaaGreatDoor.K Go.Proofs.YtdgphoemjeakaaaGreatDoor.P Go.Proofs.YtdgphoemjeakaaaGreatDoor.U Go.Proofs.YtdgphoemjeakaaaGreatDoor.R
attribute [local go_sem ↓] exec_sto24 exec_sto38

@[local go_sem ↓] theorem fld38_5 (W : World) (v0 v1 v2 v3 v4 v5 v6 v7 v8 v9 v10 v11 v12 v13 v14 : Value) : (Instr.field 38 (.agg #[v0, v1, v2, v3, v4, v5, v6, v7, v8, v9, v10, v11, v12, v13, v14]) 5).run Tryz.prog W = .ok v5 W := by kernel_rfl
@[local go_sem ↓] theorem fld38_7 (W : World) (v0 v1 v2 v3 v4 v5 v6 v7 v8 v9 v10 v11 v12 v13 v14 : Value) : (Instr.field 38 (.agg #[v0, v1, v2, v3, v4, v5, v6, v7, v8, v9, v10, v11, v12, v13, v14]) 7).run Tryz.prog W = .ok (.agg #[v7, v8, v9, v10, v11, v12, v13]) W := by kernel_rfl
@[local go_sem ↓] theorem idx36_3 (W : World) (v0 v1 v2 v3 v4 v5 v6 : Value) : (Instr.index 36 (.agg #[v0, v1, v2, v3, v4, v5, v6]) (.int .i64 3)).run Tryz.prog W = .ok v3 W := by kernel_rfl
/-- The service at the head of the outer loop: all wait; or all are done. -/
def Top (a : At) (k t0 j : Nat) (s : V.Sys) : Prop := V.Inv a.li s ∧ s.rs.length = k ∧ s.now = j ∧ ((V.QA k s ∧ j < t0) ∨ (V.QB a.li k k s ∧ j = t0))
/-- Behind the tick: all wait; or so many are done. -/
def Mid (a : At) (k t0 j : Nat) (s : V.Sys) : Prop := V.Inv a.li s ∧ s.rs.length = k ∧ s.now = j ∧ ((V.QA k s ∧ j < t0) ∨ (∃ d, V.QB a.li k d s) ∧ j = t0)
set_option maxHeartbeats 8000000 in
set_option maxRecDepth 100000 in
theorem queue_walk (hm : Said.may) (n l r : Int) (w : World) : Calls Tryz.prog 5 #[.int .i64 n, .int .i64 l, .int .i64 r] w fun e w' => e = .returned (.bool true) ∧ Chg No w w' := by
  have HM := Lib.hid hm
  clear hm
  obtain ⟨x, x0, x1, hx⟩ := urem l 20 (by decide)
  obtain ⟨y, y0, y1, hy⟩ := urem r 41 (by decide)
  obtain ⟨z, z0, z1, hz⟩ := urem n 100 (by decide)
  obtain ⟨k, hk⟩ : ∃ k : Nat, 1 + z = k := ⟨(1 + z).toNat, by omega⟩
  obtain ⟨t0, ht0⟩ : ∃ t0 : Nat, max (1 + y) 2 = t0 := ⟨(max (1 + y) 2).toNat, by omega⟩
  have i0 : V.Inv (1 + x) (V.new 20000 0 (1 + x)) := V.Inv.new (by decide) (by decide) (by omega)
  have q0 : V.QA 0 (V.new 20000 0 (1 + x)) := V.QA.new _ _
  have n0 : (V.new 20000 0 (1 + x)).now = 0 := rfl
  obtain ⟨s0, e0⟩ : ∃ s0, V.new 20000 0 (1 + x) = s0 := ⟨_, rfl⟩
  rw [e0] at i0 q0 n0
  have i1 := V.Inv.arrives (li := 1 + x) k i0
  obtain ⟨q1, n1⟩ := V.QA.arrives (li := 1 + x) k q0 n0 (by omega)
  rw [Nat.zero_add] at q1
  obtain ⟨s1, e1⟩ : ∃ s1, V.arrives (1 + x) k s0 = s1 := ⟨_, rfl⟩
  rw [e1] at i1 q1 n1
  have HE := Lib.hid (And.intro e0 e1)
  have HS := Lib.hid (And.intro i0 (And.intro i1 q1))
  have HL0 : s0.rs.length = 0 := q0.len
  clear e0 e1 i0 i1 q0 q1
  go_enter Tryz.func5, Tryz.ntmps5
  go_wp2_with fail
  refine (default_any w).mono ?_
  rintro e w1 ⟨rfl, hc1⟩
  have C1 := hc1.alloc (.cells (ca 20000 1 10 3) 24)
  have hsz : w.heap.size ≤ w1.heap.size := hc1.size
  have hB := Blk.new w1 (ca 20000 1 10 3) 24
  clear hc1
  go_wp2_with fail
  rw [sto24]
  generalize w1.alloc (.cells (ca 20000 1 10 3) 24) = w2 at *
  generalize w1.heap.size = B at *
  have c10 := hB.cell 10
  have f10 := hB.free 10
  have c14 := hB.cell 14
  have f14 := hB.free 14
  have c17 := hB.cell 17
  have f17 := hB.free 17
  go_wp2_with fail
  have C2 := ((C1.set (a := ⟨B, 10, none⟩) (fun h => absurd h (by show ¬ B < _; omega)) (.int .i64 0)).set (a := ⟨B, 14, none⟩) (fun h => absurd h (by show ¬ B < _; omega)) (.int .i64 (1 + x))).set (a := ⟨B, 17, none⟩) (fun h => absurd h (by show ¬ B < _; omega)) (.int .i64 y)
  have hB2 : Blk (((w2.setCell ⟨B, 10, none⟩ (.int .i64 0)).setCell ⟨B, 14, none⟩ (.int .i64 (1 + x))).setCell ⟨B, 17, none⟩ (.int .i64 y)) B (ca 20000 0 (1 + x) y) 24 := ((hB.set 10 _).set 14 _).set 17 _
  generalize ((w2.setCell ⟨B, 10, none⟩ (.int .i64 0)).setCell ⟨B, 14, none⟩ (.int .i64 (1 + x))).setCell ⟨B, 17, none⟩ (.int .i64 y) = w3 at *
  have hr := rowOf_blk hB2
  rw [ca_size] at hr
  have HC3 := Lib.hid C2
  rw [ld24_row hr]
  clear C1 C2 hB hB2 c10 f10 c14 f14 c17 f17 hsz
  go_wp2_with fail
  have hok : P.Ok 20000 0 (1 + x) y := ⟨.inr ⟨by decide, by decide⟩, ⟨by decide, by decide⟩, ⟨by omega, by omega⟩, ⟨y0, by omega⟩⟩
  refine (new_at HM.out 20000 0 (1 + x) y hok w3).mono ?_
  rintro e w4 ⟨a, rfl, ⟨hbu, hini, hli, hrr⟩, h4⟩
  have HK : Hid (P.Ok a.bu a.ini a.li a.rd) := by
    rw [hbu, hini, hli, hrr]
    exact hok
  rw [HE.out.1] at h4
  have H4 := Lib.hid h4
  have J0 : Hid (V.Inv a.li s0) := by rw [hli]; exact HS.out.1
  have J1 : Hid (V.Inv a.li s1 ∧ V.QA k s1) := by rw [hli]; exact HS.out.2
  clear h4 hr hok
  go_wp2_with fail
  refine (do_arrive H4.out J0.out k _ ⟨by omega, by omega⟩ no_text (by omega) (by omega) (by omega) (by omega)).mono ?_
  rintro e w5 ⟨rfl, h5⟩
  rw [hli, HE.out.2] at h5
  have H5 := Lib.hid h5
  have hl1 := J1.out.2.len
  clear h5
  go_wp2_with fail
  refine (see_at H5.out J1.out.1 (by omega)).mono ?_
  rintro e w6 ⟨x6, rfl, -, hc6⟩
  have hv6 : vs s1 x6 = #[.int .i64 s1.now, .int .i64 s1.want, .bool s1.ld.panic, .bool s1.proxy, .slice x6.1 s1.pods.length x6.2, .int .i64 k, .int .i64 (V.ends s1.rs 2), .int .i64 (V.ends s1.rs 0), .int .i64 (V.ends s1.rs 1), .int .i64 (V.ends s1.rs 2), .int .i64 (V.ends s1.rs 3), .int .i64 (V.ends s1.rs 4), .int .i64 (V.ends s1.rs 5), .int .i64 (V.ends s1.rs 6), .bool false] := by
    rw [vs_lit]
    rw [J1.out.2.q, V.qof_len]
  rw [hv6]
  have H6 := Lib.hid (H5.out.no hc6)
  clear hc6 hv6 H5
  go_wp2_with fail
  have hw1 : (300 : Nat) ≤ 300 := Nat.le_refl _
  go_loopw [11] (fun i wr => ∃ j : Nat, j ≤ 41 ∧ i = .int .i64 j ∧ Hid (∃ s, Sx a w s wr ∧ Top a k t0 j s)) (fun i _ => 300 - (intOf i).toNat)
  case atStart => exact ⟨0, by decide, rfl, s1, Sx.of H6.out HC3.out, J1.out.1, J1.out.2.len, n1, .inl ⟨J1.out.2, by omega⟩⟩
  case round =>
    obtain ⟨j, hj, rfl, HR⟩ := hrel
    obtain ⟨s, hA, hT⟩ := HR.out
    have HA := Lib.hid hA
    have HTT := Lib.hid hT
    obtain ⟨hI, hlen, hnow, hcase⟩ := hT
    have HI := Lib.hid hI
    have HCS := Lib.hid hcase
    clear hA hI hcase HR
    have hE : V.ends s.rs 3 = (if j < t0 then 0 else (k : Int)) := by
      rcases HCS.out with ⟨h1, h2⟩ | ⟨h1, h2⟩
      · rw [if_pos h2]
        exact h1.ends.2.1
      · rw [if_neg (by omega)]
        exact h1.ends.1
    have k300 : decide ((j : Int) < 300) = true := decide_eq_true (by omega)
    obtain ⟨SS, wk, hA1, hK1⟩ := HA.out.aft
    go_wp2_with fail
    refine (see_at hA1 HI.out (by omega)).mono ?_
    rintro e w7 ⟨x7, rfl, -, hc7⟩
    have H7 := Lib.hid (HA.out.no hc7)
    rw [vs_lit, hE]
    clear hc7 hE HA hA1 hK1
    by_cases hlt : j < t0
    · rw [if_pos hlt]
      obtain ⟨SS2, wk2, hA2, hK2⟩ := H7.out.aft
      have HA2 := Lib.hid hA2
      have HK2 := Lib.hid hK2
      have hQA : V.QA k s := by
        rcases HCS.out with ⟨h1, h2⟩ | ⟨h1, h2⟩
        · exact h1
        · omega
      have HQA := Lib.hid hQA
      clear hA2 hK2 hQA
      go_wp2_with fail
      refine (do_tick HM.out HK.out HA2.out HI.out 1 _ ⟨by decide, by decide⟩ no_text (by omega) (by omega)).mono ?_
      rintro e w8 ⟨rfl, h8⟩
      have hS8 := HK2.out _ _ h8
      obtain ⟨t1, t2⟩ := HQA.out.tick (bu := a.bu) (rd := a.rd) HI.out (by omega) (by omega) (by omega) (by omega) (by omega)
      have hmid : Mid a k t0 (j + 1) (V.ticks a.bu a.li a.rd 1 s) := by
        refine ⟨HI.out.ticks (by omega) (by omega) 1, (V.ticks_len ..).trans hlen, by rw [V.ticks_now]; omega, ?_⟩
        by_cases hl2 : j + 1 < t0
        · exact .inl ⟨t1 (by omega), hl2⟩
        · exact .inr ⟨⟨0, t2 (by omega)⟩, by omega⟩
      generalize V.ticks a.bu a.li a.rd 1 s = s8 at hmid hS8
      clear t1 t2 h8 HQA HCS HI hlen hnow
      have HM8 := Lib.hid hmid
      have H8 := Lib.hid hS8
      obtain ⟨SS3, wk3, hA3, hK3⟩ := hS8.aft
      have HA3 := Lib.hid hA3
      have hlen8 := hmid.2.1
      clear hA3 hK3 hmid hS8 HTT H7 HA2 HK2
      go_wp2_with fail
      refine (see_at HA3.out HM8.out.1 (by omega)).mono ?_
      rintro e w9 ⟨x9, rfl, -, hc9⟩
      have hB9 := Blk.new w9 (vs s8 x9) 38
      have hsv := H8.out.make (hc9.alloc (.cells (vs s8 x9) 38)) hc9.size hB9
      clear hc9
      go_wp2_with fail
      rw [sto38]
      generalize w9.alloc (.cells (vs s8 x9) 38) = w10 at *
      generalize w9.heap.size = BB at *
      have HSV := Lib.hid hsv
      obtain ⟨-, -, -, q5, q6⟩ := vs_ends hB9
      have he : V.ends s8.rs 5 = 0 ∧ V.ends s8.rs 6 = 0 := by
        rcases HM8.out.2.2.2 with ⟨h1, _⟩ | ⟨⟨d, h1⟩, _⟩
        · exact ⟨h1.ends.2.2.2.1, h1.ends.2.2.2.2⟩
        · exact ⟨h1.ends.2.2.1, h1.ends.2.2.2.1⟩
      rw [he.1] at q5
      rw [he.2] at q6
      clear hsv hB9 H8 HA3 he
      go_wp2_with fail
      clear q5 q6
      go_loopw [] (fun wr => Hid (∃ s x, Sv a w BB s x wr ∧ Mid a k t0 (j + 1) s)) (fun wr => k - (intOf ((wr.cell? ⟨BB, 10, none⟩).getD undef)).toNat)
      case atStart => exact ⟨s8, x9, HSV.out, HM8.out⟩
      case round =>
        rename_i wo
        obtain ⟨s9, xx, hsv, hmid⟩ := hrel.out
        obtain ⟨hb, hcc⟩ := hsv.blk
        obtain ⟨-, -, -, -, -, -, q6⟩ := vs_cells hb
        have HV := Lib.hid hsv
        have HMD := Lib.hid hmid
        by_cases hbz : 0 < V.ends s9.rs 2
        · obtain ⟨d, hd, hjt⟩ : ∃ d, V.QB a.li k d s9 ∧ j + 1 = t0 := by
            rcases hmid.2.2.2 with ⟨h1, _⟩ | ⟨⟨d, h1⟩, h2⟩
            · have := h1.ends.1
              omega
            · exact ⟨d, h1, h2⟩
          obtain ⟨-, q10, -, -, -⟩ := vs_ends hb
          rw [hd.ends.1] at q10
          have HQ10 := Lib.hid q10
          clear q10
          have HQ := Lib.hid hd
          obtain ⟨g1, g2, g3, g4⟩ := hd.stand
          obtain ⟨g5, g6⟩ := g4 hbz
          obtain ⟨f1, f2⟩ := hd.finish hbz
          have kz : decide (0 < V.ends s9.rs 2) = true := decide_eq_true hbz
          have HF := Lib.hid (And.intro f1 f2)
          have HST := Lib.hid (And.intro g3 g6)
          obtain ⟨SS4, wk4, hA4, hK4⟩ := hsv.aft
          have HA4 := Lib.hid hA4
          have HK4 := Lib.hid hK4
          have hmi := hmid.1
          have hmn := hmid.2.2.1
          have HMI := Lib.hid hmi
          clear f1 f2 g3 g4 g6 hd hsv hmid hA4 hK4 hrel hmi hb hcc
          go_wp2_with fail
          refine (requests_at HA4.out (by omega)).mono ?_
          rintro e w11 ⟨v, rfl, hown, hc11⟩
          obtain ⟨va, cv, rfl⟩ := hown.sl
          obtain ⟨g, o, rfl, -, -, -, -⟩ := hown.some_ (by omega)
          have HOW := Lib.hid hown
          have H11 := Lib.hid hc11
          rw [g1]
          clear hown hc11
          go_wp2_with fail
          go_loopw [14] (fun i wr' => ∃ m : Nat, m ≤ d ∧ i = .int .i64 m ∧ wr' = w11) (fun i _ => d - (intOf i).toNat)
          case atStart => exact ⟨0, Nat.zero_le _, rfl, rfl⟩
          case round =>
            obtain ⟨m, hm, rfl, rfl⟩ := hrel
            obtain ⟨rq, hrq⟩ : ∃ rq, s9.rs[m]? = some rq := ⟨s9.rs[m]'(by omega), List.getElem?_eq_getElem (by omega)⟩
            have c2 := HOW.out.cellAt (m * 4 + 2) (by omega)
            rw [reqs_at _ _ _ _ hrq (by omega), ← Nat.add_assoc] at c2
            by_cases hmd : m < d
            · have hst := HST.out.1 m rq hmd hrq
              have c2' := c2.trans (show (rcells rq)[2]? = some (.int .i64 3) by rw [← hst]; rfl)
              clear c2 hrq hst
              go_wp2_with fail
              go_roundw
              case rel => exact ⟨m + 1, by omega, by go_num, trivial⟩
              case measure => simp [intOf]; omega
            · obtain rfl : m = d := by omega
              have hst := HST.out.2 rq hrq
              have c2' := c2.trans (show (rcells rq)[2]? = some (.int .i64 2) by rw [← hst]; rfl)
              clear c2 hrq hst
              go_wp2_with fail
              refine (do_finish (HA4.out.no H11.out) HMI.out 0 _ (by decide) no_text (by omega) (by omega) (by omega) (by omega)).mono ?_
              rintro e w13 ⟨rfl, h13⟩
              have hin := HMI.out.finish (n := 0)
              have hln := V.finish_len a.li 0 s9
              have hnn := finish_now a.li 0 s9
              have hqn := HF.out.2
              rw [HF.out.1]
              have H13 := Lib.hid h13
              generalize (V.finish a.li 0 s9).2 = sn at *
              have HMN : Hid (Mid a k t0 (j + 1) sn) := ⟨hin, by omega, by omega, .inr ⟨⟨_, hqn⟩, hjt⟩⟩
              have HQN := Lib.hid hqn
              have HIN := Lib.hid hin
              clear h13 hin hqn
              go_wp2_with fail
              refine (see_at H13.out HIN.out (by omega)).mono ?_
              rintro e w14 ⟨x14, rfl, -, hc14⟩
              obtain ⟨hb, -, hnew⟩ := HK4.out sn w14 (H13.out.no hc14)
              have hsn := hnew x14
              have hth := there_blk hb
              clear hc14 hb hnew
              go_wp2_with fail
              rw [sto38m sn x14 hth]
              clear hth
              generalize wset w14 BB 0 (vs sn x14).toList = w15 at *
              have HSN := Lib.hid hsn
              clear hsn
              go_wp2_with fail
              go_roundw
              case rel => exact ⟨sn, x14, HSN.out, HMN.out⟩
              case measure =>
                obtain ⟨-, q10, -, -, -⟩ := vs_ends HSN.out.blk.1
                rw [HQN.out.ends.1] at q10
                rw [q10, HQ10.out]
                simp [intOf]
                omega
        · have kz : decide (0 < V.ends s9.rs 2) = false := decide_eq_false hbz
          have htop : Top a k t0 (j + 1) s9 := by
            refine ⟨hmid.1, hmid.2.1, hmid.2.2.1, ?_⟩
            rcases hmid.2.2.2 with ⟨h1, h2⟩ | ⟨⟨d, h1⟩, h2⟩
            · exact .inl ⟨h1, h2⟩
            · have := h1.done (by omega) (by have := h1.ends.2.2.2.2; omega)
              subst this
              exact .inr ⟨h1, h2⟩
          have HX := Lib.hid (And.intro hsv.sx htop)
          clear hsv hmid htop hb hcc hrel
          go_wp2_with fail
          go_roundw
          case rel => exact ⟨j + 1, by omega, by go_num, s9, HX.out.1, HX.out.2⟩
          case measure => simp [intOf]; omega
    · rw [if_neg hlt]
      go_wp2_with fail
      obtain ⟨SS2, wk2, hA2, hK2⟩ := H7.out.aft
      refine (see_at hA2 HI.out (by omega)).mono ?_
      rintro e w8 ⟨x8, rfl, -, hc8⟩
      have hB8 := Blk.new w8 (vs s x8) 38
      have C8 := H7.out.chg.trans (hc8.alloc (.cells (vs s x8) 38))
      clear hc8 hA2 hK2
      go_wp2_with fail
      rw [sto38]
      generalize w8.alloc (.cells (vs s x8) 38) = w9 at *
      generalize w8.heap.size = BB at *
      have HC8 := Lib.hid C8
      have HB8 := Lib.hid hB8
      clear C8 hB8
      go_wp2_with fail
      refine (told_any HM.out w9).mono ?_
      rintro e w10 ⟨rfl, hc10⟩
      have HC10 := Lib.hid (HC8.out.trans hc10)
      have hQB : V.QB a.li k k s := by
        rcases HCS.out with ⟨h1, h2⟩ | ⟨h1, h2⟩
        · omega
        · exact h1
      obtain ⟨-, q3, q4, -, -⟩ := vs_ends (HB8.out.kept hc10)
      rw [hQB.ends.1] at q3
      rw [hQB.ends.2.1] at q4
      clear hc10 hQB
      go_wp2_with fail
      go_ret
      exact ⟨rfl, HC10.out⟩
/-- TopQueue returns true. -/
theorem queue_any (n l r : Int) (w : World) : Calls Tryz.prog 5 #[.int .i64 n, .int .i64 l, .int .i64 r] w fun e w' => e = .returned (.bool true) ∧ Chg No w w' := queue_walk Go.Proofs.YtdgphoemjeakaaaGreatDoor.W.may_any n l r w
end Go.Proofs.YtdgphoemjeakaaaGreatDoor.Y
