/- TopSteady: the walk. -/
import Derived.Test.YtdgphoemjeakaaaGreatDoorZe
namespace Go.Proofs.YtdgphoemjeakaaaGreatDoor.Y
open Go.Proofs.YtdgphoemjeakaaaGreatDoor.Rg
open Go.Proofs.YtdgphoemjeakaaaGreatDoor.Me
open Go.RowKit Go.Proofs.YtdgphoemjeakaaaGreatDoor Go.Proofs.YtdgphoemjeakaaaGreatDoor.K Go.Proofs.YtdgphoemjeakaaaGreatDoor.P Go.Proofs.YtdgphoemjeakaaaGreatDoor.U Go.Proofs.YtdgphoemjeakaaaGreatDoor.R

attribute [local go_sem ↓] exec_sto24 exec_sto38
theorem urem (a m : Int) (h0 : 0 < m) : ∃ x, 0 ≤ x ∧ x < m ∧ (IntKind.u64.wrap a).tmod m = x := by
  have e : IntKind.u64.wrap a = a % 18446744073709551616 := by simp [IntKind.wrap, IntKind.signed, IntKind.bits]
  have p : 0 ≤ IntKind.u64.wrap a := by rw [e]; omega
  refine ⟨(IntKind.u64.wrap a) % m, Int.emod_nonneg _ (by omega), Int.emod_lt_of_pos _ h0, ?_⟩
  rw [Int.tmod_eq_emod_of_nonneg p]
theorem small64 {x : Int} (h0 : 0 ≤ x) (h1 : x < 1000) : wrap64 x = x := by
  unfold wrap64
  omega
theorem ld24_row {w : World} {B : Nat} {cs : Array Value} (h : rowOf w B 0 20 = some (.agg cs)) : ld24 (.pointer (some ⟨B, 0, none⟩)) w = .ok (.value (.agg cs)) w := by
  simp [ld24, h]
/-- Are all as many as the load wants, and stay so? -/
def Steady (k : Nat) (rd : Int) : Prop := ∀ i : Nat, i ≤ 30 → ((V.ticks 20000 10 rd i (V.ticks 20000 10 rd 600 (V.arrives 10 k (V.new 20000 1 10)))).ld.panic = false ∧ (V.ticks 20000 10 rd i (V.ticks 20000 10 rd 600 (V.arrives 10 k (V.new 20000 1 10)))).want = (1000 * (k : Int) + 6999) / 7000 ∧ V.ends (V.ticks 20000 10 rd i (V.ticks 20000 10 rd 600 (V.arrives 10 k (V.new 20000 1 10)))).rs 2 = k) ∧ (i = 0 → (V.ticks 20000 10 rd i (V.ticks 20000 10 rd 600 (V.arrives 10 k (V.new 20000 1 10)))).q.length = 0)
theorem ticks_add (bu li rd : Int) (m : Nat) : ∀ (n : Nat) (s : V.Sys), V.ticks bu li rd (n + m) s = V.ticks bu li rd n (V.ticks bu li rd m s)
  | 0, s => by rw [Nat.zero_add]; rfl
  | n + 1, s => by rw [Nat.add_right_comm, ticks_succ, ticks_add bu li rd m n, ticks_succ]
/-- The service, and a variable of the caller's that holds what was seen. -/
def Sv (a : At) (ws : World) (B : Nat) (s : V.Sys) (x : Option Addr × Nat) (w : World) : Prop :=
  ∃ SS wk, Aft a SS wk s w ∧ (¬ SS B ∧ B < wk.heap.size ∧ ws.heap.size ≤ B) ∧ (∀ k, SS k → ws.heap.size ≤ k) ∧ Chg No ws wk ∧ Blk wk B (vs s x) 38
theorem Sv.make {a : At} {ws w1 wr wk : World} {B : Nat} {s : V.Sys} {x : Option Addr × Nat} (h : Aft a No w1 s wr) (c0 : Chg No ws w1) (c : Chg No wr wk) (hB : wr.heap.size ≤ B) (hb : Blk wk B (vs s x) 38) : Sv a ws B s x wk :=
  ⟨K.nx No w1 wr, wk, h.base c, ⟨fun h2 => by have := nx_bd h2; omega, hb.lt, Nat.le_trans (Nat.le_trans c0.size h.chg.size) hB⟩, fun _ hk => hk.1.elim False.elim fun h2 => Nat.le_trans c0.size h2, c0.trans (h.chg.trans c), hb⟩
theorem Sv.aft {a : At} {ws : World} {B : Nat} {s : V.Sys} {x : Option Addr × Nat} {w : World} (h : Sv a ws B s x w) : ∃ SS wk, Aft a SS wk s w ∧ ∀ s' w', Aft a SS wk s' w' → Blk w' B (vs s x) 38 ∧ Chg No ws w' ∧ ∀ x', Sv a ws B s' x' (wset w' B 0 (vs s' x').toList) := by
  obtain ⟨SS, wk, hA, ⟨n1, n2, n3⟩, hS, hc, hB⟩ := h
  refine ⟨SS, wk, hA, fun s' w' h' => ?_⟩
  have hb' : Blk w' B (vs s x) 38 := hB.chg h'.chg n1
  have hc' : Chg No ws w' := hc.of_new (h'.chg.mono fun k _ hk => hS k hk)
  refine ⟨hb', hc', fun x' => ?_⟩
  have hn : ¬ K.nx SS wk w' B := fun h2 => h2.1.elim n1 (by omega)
  have hb9 : Blk (wset w' B 0 (vs s' x').toList) B (vs s' x') 38 := by
    have := Blk.wset (vs s' x').toList 0 hb'
    rw [aset_t] at this
    exact this
  refine ⟨K.nx SS wk w', _, ?_, ⟨hn, hb9.lt, n3⟩, fun k hk => hk.1.elim (hS k) fun h2 => Nat.le_trans hc.size h2, Chg.wset (fun h => absurd h (by omega)) _ _ hc', hb9⟩
  obtain ⟨rv, tv, tn, htn, tx, hs⟩ := h'
  exact ⟨rv, tv, tn, htn, tx, St.start (Y2.good.chg hs.1 (Chg.wset (T := fun k => k = B) (fun _ => rfl) _ _ (Chg.refl _ w')) fun k hk hkB => hn (hkB ▸ hk))⟩
theorem Sv.blk {a : At} {ws : World} {B : Nat} {s : V.Sys} {x : Option Addr × Nat} {w : World} (h : Sv a ws B s x w) : Blk w B (vs s x) 38 ∧ Chg No ws w := by
  obtain ⟨SS, wk, hA, hK⟩ := h.aft
  exact ⟨(hK s w hA).1, (hK s w hA).2.1⟩
set_option maxHeartbeats 8000000 in
set_option maxRecDepth 100000 in
theorem steady_walk (hm : Said.may) (st : ∀ (k : Nat) (rd : Int), 1 ≤ k → k ≤ 21 → 0 ≤ rd → rd ≤ 10 → Steady k rd) (n r : Int) (w : World) : Calls Tryz.prog 4 #[.int .i64 n, .int .i64 r] w fun e w' => e = .returned (.bool true) ∧ Chg No w w' := by
  have HM := Lib.hid hm
  clear hm
  obtain ⟨rd, rd0, rd1, hrd⟩ := urem r 11 (by decide)
  obtain ⟨m, m0, m1, hmm⟩ := urem n 21 (by decide)
  obtain ⟨k, hk⟩ : ∃ k : Nat, 1 + m = k := ⟨(1 + m).toNat, by omega⟩
  have ST := Lib.hid (st k rd (by omega) (by omega) rd0 (by omega))
  clear st
  have i0 : V.Inv 10 (V.new 20000 1 10) := V.Inv.new (by decide) (by decide) (by decide)
  have l0 : (V.new 20000 1 10).rs.length = 0 := rfl
  have n0 : (V.new 20000 1 10).now = 0 := rfl
  obtain ⟨s0, e0⟩ : ∃ s0, V.new 20000 1 10 = s0 := ⟨_, rfl⟩
  rw [e0] at i0 l0 n0
  have i1 := V.Inv.arrives (li := 10) k i0
  have l1 := V.arrives_len 10 k s0
  have n1 := arrives_now 10 k s0
  rw [l0] at l1
  rw [n0] at n1
  obtain ⟨s1, e1⟩ : ∃ s1, V.arrives 10 k s0 = s1 := ⟨_, rfl⟩
  rw [e1] at i1 l1 n1
  have it := fun j : Nat => (⟨V.Inv.ticks (bu := 20000) (rd := rd) (li := 10) (by decide) (by decide) j i1, (V.ticks_len 20000 10 rd j s1).trans l1, (V.ticks_now 20000 10 rd j s1).trans (by rw [n1])⟩ : V.Inv 10 (V.ticks 20000 10 rd j s1) ∧ (V.ticks 20000 10 rd j s1).rs.length = 0 + k ∧ (V.ticks 20000 10 rd j s1).now = 0 + (j : Int))
  have IT := Lib.hid it
  have HE := Lib.hid (And.intro e0 e1)
  have I0 := Lib.hid i0
  have I1 := Lib.hid i1
  clear it e0 e1 i0 i1
  go_enter Tryz.func4, Tryz.ntmps4
  go_wp2_with fail
  refine (default_any w).mono ?_
  rintro e w1 ⟨rfl, hc1⟩
  have C1 := hc1.alloc (.cells (ca 20000 1 10 3) 24)
  have hsz : w.heap.size ≤ w1.heap.size := hc1.size
  have hB := Blk.new w1 (ca 20000 1 10 3) 24
  clear hc1
  go_wp2_with fail
  rw [sto24]
  generalize w1.alloc (.cells (ca 20000 1 10 3) 24) = w2 at *
  generalize w1.heap.size = B at *
  have c17 := hB.cell 17
  have f17 := hB.free 17
  go_wp2_with fail
  have C2 := C1.set (a := ⟨B, 17, none⟩) (fun h => absurd h (by show ¬ B < _; omega)) (.int .i64 rd)
  have hB2 : Blk (w2.setCell ⟨B, 17, none⟩ (.int .i64 rd)) B (ca 20000 1 10 rd) 24 := hB.set 17 _
  generalize w2.setCell ⟨B, 17, none⟩ (.int .i64 rd) = w3 at *
  have hr := rowOf_blk hB2
  rw [ca_size] at hr
  have HC3 := Lib.hid C2
  rw [ld24_row hr]
  clear C1 C2 hB hB2 c17 f17 hsz
  go_wp2_with fail
  have hok : P.Ok 20000 1 10 rd := ⟨.inr ⟨by decide, by decide⟩, ⟨by decide, by decide⟩, ⟨by decide, by decide⟩, ⟨rd0, by omega⟩⟩
  refine (new_at HM.out 20000 1 10 rd hok w3).mono ?_
  rintro e w4 ⟨a, rfl, ⟨hbu, hini, hli, hrr⟩, h4⟩
  have HK : Hid (P.Ok a.bu a.ini a.li a.rd) := by
    rw [hbu, hini, hli, hrr]
    exact hok
  rw [HE.out.1] at h4
  have H4 := Lib.hid h4
  have J0 : Hid (V.Inv a.li s0) := by rw [hli]; exact I0
  have J1 : Hid (V.Inv a.li s1) := by rw [hli]; exact I1
  have JT : Hid (∀ j : Nat, V.Inv a.li (V.ticks 20000 10 rd j s1) ∧ (V.ticks 20000 10 rd j s1).rs.length = 0 + k ∧ (V.ticks 20000 10 rd j s1).now = 0 + (j : Int)) := by rw [hli]; exact IT
  clear h4 hr hok
  go_wp2_with fail
  have w1m : wrap64 (1 + m) = k := by rw [hk]; exact small64 (by omega) (by omega)
  try rw [w1m]
  try rw [hk]
  refine (do_arrive H4.out J0.out k _ ⟨by omega, by omega⟩ no_text (by omega) (by omega) (by omega) (by omega)).mono ?_
  rintro e w5 ⟨rfl, h5⟩
  rw [hli, HE.out.2] at h5
  have H5 := Lib.hid h5
  clear h5
  go_wp2_with fail
  obtain ⟨N, hN⟩ : ∃ N : Nat, N = 3 := ⟨_, rfl⟩
  go_loopw [9] (fun i wr => ∃ j : Nat, j ≤ N ∧ i = .int .i64 j ∧ Hid (Aft a No w3 (V.ticks 20000 10 rd (200 * j) s1) wr)) (fun i _ => N - (intOf i).toNat)
  case atStart => exact ⟨0, Nat.zero_le _, rfl, H5⟩
  case round =>
    obtain ⟨j, hj, rfl, HR⟩ := hrel
    by_cases hlt : j < N
    · obtain ⟨hji, hjl, hjn⟩ := JT.out (200 * j)
      have hsu := ticks_add 20000 10 rd (200 * j) 200 s1
      obtain ⟨sj, ej⟩ : ∃ sj, V.ticks 20000 10 rd (200 * j) s1 = sj := ⟨_, rfl⟩
      have hr := HR.out
      rw [ej] at hsu hji hjl hjn hr
      have HRJ := Lib.hid hr
      have HSU := Lib.hid (And.intro hsu trivial)
      have HJI := Lib.hid hji
      clear ej hsu hji hr HR
      go_wp2_with fail
      refine (do_tick HM.out HK.out HRJ.out HJI.out 200 _ ⟨by decide, by decide⟩ no_text (by omega) (by omega)).mono ?_
      rintro e w7 ⟨rfl, h7⟩
      rw [hbu, hli, hrr, ← HSU.out.1] at h7
      have H7 := Lib.hid h7
      clear h7
      go_wp2_with fail
      go_roundw
      case rel =>
        refine ⟨j + 1, by omega, by go_num, ?_⟩
        rw [Nat.mul_add, Nat.add_comm]
        exact H7
      case measure => simp [intOf]; omega
    · obtain rfl : j = 3 := by omega
      obtain ⟨hji, hjl, hjn⟩ := JT.out 600
      have hst := ST.out
      unfold Steady at hst
      rw [HE.out.1, HE.out.2] at hst
      have hjt : ∀ i : Nat, V.Inv a.li (V.ticks 20000 10 rd i (V.ticks 20000 10 rd 600 s1)) ∧ (V.ticks 20000 10 rd i (V.ticks 20000 10 rd 600 s1)).rs.length = 0 + k ∧ (V.ticks 20000 10 rd i (V.ticks 20000 10 rd 600 s1)).now = 0 + ((i + 600 : Nat) : Int) := fun i => by
        have h := JT.out (i + 600)
        rw [ticks_add 20000 10 rd 600 i s1] at h
        exact h
      have hr := HR.out
      clear HR
      obtain ⟨s6, e6⟩ : ∃ s6, V.ticks 20000 10 rd 600 s1 = s6 := ⟨_, rfl⟩
      have hr6 : Aft a No w3 s6 wr := by rw [← e6]; exact hr
      rw [e6] at hst hjt hji hjl hjn
      clear e6 hr
      have HST := Lib.hid hst
      have HJT := Lib.hid hjt
      have HJI := Lib.hid hji
      have H6 := Lib.hid hr6
      obtain ⟨⟨p1, p2, p3⟩, p4⟩ := hst 0 (Nat.zero_le _)
      have p5 := p4 rfl
      clear hst hjt hji hr6 p4
      have p1' : s6.ld.panic = false := p1
      have p2' : s6.want = (1000 * (k : Int) + 6999) / 7000 := p2
      have p3' : V.ends s6.rs 2 = k := p3
      have p5' : s6.q.length = 0 := p5
      clear p1 p2 p3 p5
      obtain ⟨A, hA⟩ : ∃ A, (1000 * (k : Int) + 6999) / 7000 = A := ⟨_, rfl⟩
      have hA2 : (1000 * (k : Int) + 6999).tdiv 7000 = A := by rw [Int.tdiv_eq_ediv_of_nonneg (by omega)]; exact hA
      have a0 : 1 ≤ A := by omega
      have a1 : A ≤ 5 := by omega
      rw [hA] at p2'
      have HQ := Lib.hid (And.intro p1' (And.intro p2' (And.intro p3' p5')))
      clear p1' p2' p3' p5'
      go_wp2_with fail
      refine (see_at H6.out HJI.out (by omega)).mono ?_
      rintro e w8 ⟨x8, rfl, -, hc8⟩
      have c8 : Chg No wr (w8.alloc (.cells (vs s6 x8) 38)) := hc8.alloc _
      have hB8 := Blk.new w8 (vs s6 x8) 38
      have hsv := Sv.make H6.out HC3.out c8 hc8.size hB8
      go_wp2_with fail
      rw [sto38]
      generalize w8.alloc (.cells (vs s6 x8) 38) = w9 at *
      generalize w8.heap.size = BB at *
      have HSV := Lib.hid hsv
      obtain ⟨-, q1, q2, -, -, q5, q6⟩ := vs_cells hB8
      rw [HQ.out.1] at q2
      rw [HQ.out.2.1] at q1
      rw [HQ.out.2.2.1] at q6
      rw [HQ.out.2.2.2] at q5
      clear c8 hc8 hB8 hsv hN hj hlt
      go_wp2_with fail
      clear q1 q2 q5 q6
      obtain ⟨M, hM⟩ : ∃ M : Nat, M = 30 := ⟨_, rfl⟩
      go_loopw [12] (fun i wr => ∃ j : Nat, j ≤ M ∧ i = .int .i64 j ∧ Hid (∃ x, Sv a w BB (V.ticks 20000 10 rd j s6) x wr)) (fun i _ => M - (intOf i).toNat)
      case atStart => exact ⟨0, Nat.zero_le _, rfl, x8, HSV⟩
      case round =>
        obtain ⟨j, hj, rfl, HR⟩ := hrel
        obtain ⟨xj, hsv⟩ := HR.out
        by_cases hlt : j < M
        · obtain ⟨SS, wk, hAj, hKj⟩ := hsv.aft
          have HKJ := Lib.hid hKj
          obtain ⟨hji, hjl2, hjn2⟩ := HJT.out j
          obtain ⟨hni, hnl, hnn⟩ := HJT.out (j + 1)
          obtain ⟨⟨g1, g2, g3⟩, -⟩ := HST.out (j + 1) (by omega)
          have hsu := ticks_add 20000 10 rd j 1 s6
          rw [Nat.add_comm] at hsu
          rw [hA] at g2
          obtain ⟨sj, ej⟩ : ∃ sj, V.ticks 20000 10 rd j s6 = sj := ⟨_, rfl⟩
          obtain ⟨sn, en⟩ : ∃ sn, V.ticks 20000 10 rd (j + 1) s6 = sn := ⟨_, rfl⟩
          rw [ej] at hsu hji hjl2 hjn2 hAj
          rw [en] at hsu hni hnl hnn g1 g2 g3
          have HEN := Lib.hid (And.intro en trivial)
          have HSU := Lib.hid (And.intro hsu trivial)
          have HG := Lib.hid (And.intro g1 (And.intro g2 g3))
          have HJ1 := Lib.hid hji
          have HN1 := Lib.hid hni
          have HAJ := Lib.hid hAj
          clear hKj hAj hsv HR hji hni hsu g1 g2 g3 ej en
          go_wp2_with fail
          refine (do_tick HM.out HK.out HAJ.out HJ1.out 1 _ ⟨by decide, by decide⟩ no_text (by omega) (by omega)).mono ?_
          rintro e w10 ⟨rfl, h10⟩
          rw [hbu, hli, hrr, ← HSU.out.1] at h10
          have H10 := Lib.hid h10
          clear h10
          go_wp2_with fail
          refine (see_at H10.out HN1.out (by omega)).mono ?_
          rintro e w11 ⟨x11, rfl, -, hc11⟩
          obtain ⟨hb, -, hnew⟩ := HKJ.out sn w11 (H10.out.no hc11)
          have hsn := hnew x11
          have hth := there_blk hb
          clear hc11 hb hnew
          go_wp2_with fail
          rw [sto38m sn x11 hth]
          clear hth
          generalize wset w11 BB 0 (vs sn x11).toList = w12 at *
          obtain ⟨-, q1, q2, -, -, -, q6⟩ := vs_cells hsn.blk.1
          rw [HG.out.1] at q2
          rw [HG.out.2.1] at q1
          rw [HG.out.2.2] at q6
          have HSN := Lib.hid hsn
          clear hsn
          go_wp2_with fail
          go_roundw
          case rel =>
            refine ⟨j + 1, by omega, by go_num, x11, ?_⟩
            rw [HEN.out.1]
            exact HSN
          case measure => simp [intOf]; omega
        · obtain rfl : j = 30 := by omega
          obtain ⟨⟨g1, g2, g3⟩, -⟩ := HST.out 30 (by omega)
          obtain ⟨hb, hcc⟩ := hsv.blk
          obtain ⟨q9, -, -, -, -⟩ := vs_ends hb
          rw [g3] at q9
          have HCC := Lib.hid hcc
          have HBB := Lib.hid hb
          clear hsv HR g1 g2 g3 hb hcc
          go_wp2_with fail
          refine (told_any HM.out wr).mono ?_
          rintro e w13 ⟨rfl, hc13⟩
          have HC13 := Lib.hid (HCC.out.trans hc13)
          clear q9
          obtain ⟨⟨-, -, g3⟩, -⟩ := HST.out 30 (by omega)
          obtain ⟨q9, -, -, -, -⟩ := vs_ends (HBB.out.kept hc13)
          rw [g3] at q9
          clear hc13 g3 HBB
          go_wp2_with fail
          go_ret
          exact ⟨rfl, HC13.out⟩
end Go.Proofs.YtdgphoemjeakaaaGreatDoor.Y
