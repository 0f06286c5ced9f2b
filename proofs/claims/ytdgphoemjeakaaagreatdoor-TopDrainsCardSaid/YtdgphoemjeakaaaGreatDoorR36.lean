/- A decider of whatever numbers: Change. A decider of whatever numbers: the regions of Next. A decider of whatever numbers: the regions of Next. A decider of whatever numbers: Next on its way. -/
import Derived.Test.YtdgphoemjeakaaaGreatDoorR35
namespace Go.Proofs.YtdgphoemjeakaaaGreatDoor.Wj
open Me (mw bld)
open De (gc)
open Go.RowKit K P U Mg Wk
set_option maxRecDepth 100000
@[local go_sem ↓] theorem exec_s24 (ρ : Operand → Value) (dst : Option Tmp) (a x : Operand) (ty : TypeId) (pos : String) (after : Array Edge) (gd : Option (Nat × Bool)) (w : World) : (execOp ρ { dst := dst, op := .store 24 a x, type := ty, pos := pos, after := after, guard := gd }).run Tryz.prog w = Tx.st24 (ρ a) (ρ x) w := Tx.exec_st24 ..
theorem dcv_24 (v v' : Nat → Int) (g : Nat) (since most last : Int) : Tx.aput (dcv v g since most last) 0 (cf v').toList = dcv v' g since most last := by kernel_rfl
theorem dcv_some (v : Nat → Int) (g : Nat) (since most last : Int) : ∀ j, j < 24 → ((dcv v g since most last)[j]?).isSome = true := by
  intro j hj
  rw [Array.getElem?_eq_getElem (by have : (dcv v g since most last).size = 24 := rfl; rw [this]; exact hj)]
  rfl
theorem st24_in {w : World} {B g : Nat} {v : Nat → Int} {since most last : Int} (hb : Blk w B (dcv v g since most last) 94) (v' : Nat → Int) : ∃ w', Tx.st24 (.pointer (some ⟨B, 0, none⟩)) (.agg (cf v')) w = .ok .skip w' ∧ Blk w' B (dcv v' g since most last) 94 ∧ Chg (fun k => k = B) w w' := by
  refine ⟨w.setCells B 0 (cf v').toList, ?_, ?_, Tx.chg_puts _ _ _ (Chg.refl _ _)⟩
  · have ht : w.there B 0 (cf v').size := fun j hj => by
      rw [Nat.zero_add, hb.cell, hb.free]
      exact ⟨dcv_some v g since most last j (by have : j < 20 := hj; omega), rfl⟩
    simp only [Tx.st24, Sem.run_bind, run_storeAt_mid (P := Tryz.prog) w B 0 24 (cf v') ht (by kernel_rfl) (Tx.cf_one v')]
    rfl
  · have := Tx.blk_puts (cf v').toList 0 w (dcv v g since most last) hb
    rwa [dcv_24] at this
set_option maxHeartbeats 8000000 in
theorem change_any (v v' : Nat → Int) (d k : Nat) (T : Int) (w : World) (S : Nat → Prop) (x : Dec v d k T w S) (hv : mayB v' = true) (g0 : 1 ≤ v 4) (hk : k + 1 ≤ 1099511627776) :
    Calls Tryz.prog 57 #[.pointer (some ⟨d, 0, none⟩), .agg (cf v')] w fun e w' => ∃ c : Int, e = .returned (.int .i64 c) ∧ Dec v' d k T w' (K.nx S w w') ∧ Chg S w w' := by
  obtain ⟨g, m, h, since, most, last, x, y⟩ := x
  obtain ⟨-, -, -, -, -, -, -, -, -, ⟨d0, d1⟩, -⟩ := may_bd hv
  have HV := Lib.hid hv
  have HY := Lib.hid y
  have H1 := Lib.hid (D2.good.kept x ((Chg.refl No w).alloc (.cells (cf v') 24)))
  have C1 : Hid (Chg S w (w.alloc (.cells (cf v') 24))) := (Chg.refl S w).alloc _
  have HB : Hid (Blk (w.alloc (.cells (cf v') 24)) w.heap.size (cf v') 24) := Blk.new _ _ _
  have HNS : Hid (¬ S w.heap.size) := fun hS => by have := x.1 _ hS; omega
  clear x hv y
  go_enter Tryz.func57, Tryz.ntmps57
  go_wp2_with fail
  refine (may_t v' HV.out _).mono ?_
  rintro e w3 ⟨rfl, hc⟩
  have H3 := Lib.hid (D2.good.kept H1.out hc)
  have C3 := Lib.hid (C1.out.trans hc.of_no)
  have HB3 := Lib.hid (HB.out.kept hc)
  clear hc H1 C1 HB
  obtain ⟨A, hr, hAS, back⟩ := H3.out.met
  have HNA : Hid (¬ A w.heap.size) := fun h => HNS.out (hAS _ h)
  have HWL : Hid (w.heap.size < w3.heap.size) := HB3.out.lt
  go_wp2_with fail
  refine wp_c5 (R := fun c w' => (D2 v v' d g m h k T since most last w' (K.nx S w3 w') ∧ Chg S w w') ∧ Blk w' w.heap.size (cf v') 24 ∧ w3.heap.size ≤ w'.heap.size) (by kernel_rfl) H3.out.blk H3.out.gblk HB3.out (fun q => ?_) rfl rfl rfl (fun c w5 h5 => ?_)
  · refine (Wg.change_m v v' m k (w3.drewN q) A (Wg.Met.good.kept hr ((Chg.refl No w3).drewN q)) HV.out g0 hk).mono ?_
    rintro e w5 ⟨c, rfl, hr5, hc5⟩
    have hc5' : Chg A w3 w5 := (((Chg.refl No w3).drewN q).of_no (S := A)).trans hc5
    obtain ⟨b1, b2⟩ := back v' k w5 (Nat.le_refl k) hr5 hc5'
    exact ⟨c, rfl, ⟨b1, C3.out.trans b2⟩, HB3.out.chg hc5' HNA.out, hc5'.size⟩
  clear hr hAS back
  simp only [Rg.puts, List.setIfInBounds_toArray, List.set_cons_succ, List.set_cons_zero]
  obtain ⟨⟨h5, c5⟩, b5, l5⟩ := h5
  have H5 := Lib.hid h5
  have C5 := Lib.hid c5
  have B5 := Lib.hid b5
  have HN5 : Hid (¬ K.nx S w3 w5 w.heap.size) := fun h => h.1.elim HNS.out (fun h => absurd HWL.out (Nat.not_lt_of_le h))
  have HL5 := Lib.hid l5
  clear h5 c5 b5 l5
  obtain ⟨A1, ⟨l, sp, la, hd, hdl⟩, hAS1, back1⟩ := H5.out.del
  have HNA1 : Hid (¬ A1 w.heap.size) := fun h => HN5.out (hAS1 _ h)
  go_wp2_with fail
  refine wp_c6 (R := fun c w' => (D2 v v' d g m h k T since most last w' (K.nx (K.nx S w3 w5) w5 w') ∧ Chg S w w') ∧ Blk w' w.heap.size (cf v') 24 ∧ w5.heap.size ≤ w'.heap.size) (by kernel_rfl) H5.out.blk H5.out.gblk B5.out (fun q => ?_) rfl rfl rfl (fun c w7 h7 => ?_)
  · refine (Wd.span_any (w5.drewN q) A1 h l sp la (v' 12) (Wd.Delay.kept hd ((Chg.refl No w5).drewN q)) d0 d1).mono ?_
    rintro e w7 ⟨c, rfl, hr7, hc7⟩
    have hc7' : Chg A1 w5 w7 := (((Chg.refl No w5).drewN q).of_no (S := A1)).trans hc7
    obtain ⟨b1, b2⟩ := back1 k T w7 (Nat.le_refl k) (Del.wide.mono (show Del h k T w7 A1 from ⟨l, v' 12, la, hr7, hdl⟩) (fun g hg => ⟨.inl hg, Del.good.bd (show Del h k T w7 A1 from ⟨l, v' 12, la, hr7, hdl⟩) g hg⟩) fun g hg => hg.2) hc7'
    exact ⟨c, rfl, ⟨b1, C5.out.step b2 fun g hg hs => hs.1.resolve_right (by have := HWL.out; omega)⟩, B5.out.chg hc7' HNA1.out, hc7'.size⟩
  clear hd hdl hAS1 back1
  simp only [Rg.puts, List.setIfInBounds_toArray, List.set_cons_succ, List.set_cons_zero]
  obtain ⟨⟨h7, c7⟩, b7, l7⟩ := h7
  have H7 := Lib.hid h7
  have C7 := Lib.hid c7
  have B7 := Lib.hid b7
  have HL7 := Lib.hid l7
  clear h7 c7 b7 l7
  go_wp2_with fail
  refine wp_c7 (by kernel_rfl) H7.out.blk B7.out rfl rfl rfl (fun _ w8 h8 => ?_)
  simp only [Rg.puts, List.setIfInBounds_toArray, List.set_cons_succ, List.set_cons_zero]
  obtain ⟨q, hq, e8⟩ := h8
  generalize (if mostV v' < most then mostV v' else most) = mn at *
  have h7q := D2.good.kept H7.out hq
  obtain ⟨h8, c8⟩ := h7q.cell 22 (.int .i64 mn) (dcv_set22 ..)
  rw [← e8] at h8 c8
  have hb8 : Blk w8 w.heap.size (cf v') 24 := (B7.out.kept hq).chg c8 fun h => by
    have := HWL.out
    have := HL5.out
    rcases h.1 with h | h
    · rcases h.1 with h | h
      · exact HNS.out h
      · omega
    · omega
  have hr8 := rowOf_blk hb8
  rw [cf_size] at hr8
  obtain ⟨w9, e9, hb9, hc9⟩ := st24_in h8.blk v'
  obtain ⟨h9, c9⟩ := h8.turn hc9 hb9
  have H9 := Lib.hid h9
  have HQ := Lib.hid hq
  have HC8 := Lib.hid c8
  have HC9 := Lib.hid c9
  clear hq e8 h7q h8 c8 hb8 hb9 hc9 h9 c9
  go_wp2_with fail
  go_ret
  have y := HY.out
  have l3 := HWL.out
  have l5 := HL5.out
  have l7 := HL7.out
  have l8 := HQ.out.size
  have l9 := HC8.out.size
  have c8 := (C7.out.trans HQ.out.of_no).step HC8.out fun g hg hs => by
    rcases hs.1 with h | h
    · exact h.1.resolve_right (by omega)
    · omega
  have c9 := c8.step HC9.out fun g hg hs => by
    rcases hs.1 with h | h
    · rcases h.1 with h | h
      · exact h.1.resolve_right (by omega)
      · omega
    · omega
  have hw : Dec v' d k T w9 (K.nx S w w9) := ⟨g, m, h, since, mn, last, D2.wide.mono H9.out (fun g hg => ⟨?_, hg.2⟩) (fun g hg => hg.2), y⟩
  · first | exact ⟨_, rfl, hw, c9⟩ | exact ⟨⟨_, rfl⟩, hw, c9⟩
  · rcases hg.1 with h | h
    · rcases h.1 with h | h
      · rcases h.1 with h | h
        · rcases h.1 with h | h
          · exact .inl h
          · exact .inr (by omega)
        · exact .inr (by omega)
      · exact .inr (by omega)
    · exact .inr (by omega)
end Go.Proofs.YtdgphoemjeakaaaGreatDoor.Wj
namespace Go.Proofs.YtdgphoemjeakaaaGreatDoor.Wj
open De (gc)
open Go.RowKit K P U Mg Wk
open W Rg
theorem dcv_agg (v : Nat → Int) (g : Nat) (since most last : Int) : ∀ j, j < 20 → (dcv v g since most last)[j]? = (cf v)[j]? := by
  intro j hj
  unfold dcv Me.mw
  rw [Array.getElem?_append_left (by exact hj)]
theorem dcv_mode (v : Nat → Int) (g : Nat) (since most last : Int) : ∀ j, j < 2 → (dcv v g since most last)[21 + j]? = (#[.int .i64 since, .int .i64 most] : Array Value)[j]?
  | 0, _ => rfl
  | 1, _ => rfl
  | n + 2, h => absurd h (by omega)
noncomputable def ops_n7 : Array Oper := reg Tryz.f63 7
theorem sz_n7 : ops_n7.size = 14 := by kernel_rfl
set_option maxHeartbeats 2000000 in
set_option maxRecDepth 1000000 in
theorem wp_n7 {ops : Array Oper} (ho : ops = ops_n7) {id : Nat} {Q : Exit → Act → World → Prop} {t0 : Array Value} {w1 : World} {v : Nat → Int} {d g : Nat} {since most last : Int} (bd : Blk w1 d (dcv v g since most last) 94) {st qu : Int} (hc : ∀ (y : Int) (w : World), Calls Tryz.prog 95 #[.agg (cf v), .int .i64 y] w (Uno w)) (hs : t0.size = 151) (t0_0 : t0[0]? = some (.pointer (some ⟨d, 0, none⟩))) (t0_8 : t0[8]? = some (.int .i64 st)) (t0_9 : t0[9]? = some (.int .i64 qu))
    (hend : ∀ (x : Int × Int) (w' : World), (Chg No w1 w') → Q .normal ⟨puts ([(some 48, .pointer (some ⟨d, 0, none⟩)),
  (some 49, .pointer (some ⟨d, 0, none⟩)),
  (some 50, .pointer (some ⟨d, 0, none⟩)),
  (some 51, .agg (cf v)),
  (some 52, .int .i64 st),
  (some 53, .int .i64 x.1),
  (some 54, .pointer (some ⟨d, 0, none⟩)),
  (some 55, .pointer (some ⟨d, 0, none⟩)),
  (some 56, .pointer (some ⟨d, 0, none⟩)),
  (some 57, .agg (cf v)),
  (some 58, .int .i64 qu),
  (some 59, .int .i64 x.2),
  (some 10, .int .i64 x.1),
  (some 11, .int .i64 x.2)]) t0, []⟩ w') : (Code.region id ops true).wp Tryz.prog Q ⟨t0, []⟩ w1 := by
  subst ho
  have F : Flows (X := Int × Int) ops_n7 (fun x => [(some 48, .pointer (some ⟨d, 0, none⟩)),
  (some 49, .pointer (some ⟨d, 0, none⟩)),
  (some 50, .pointer (some ⟨d, 0, none⟩)),
  (some 51, .agg (cf v)),
  (some 52, .int .i64 st),
  (some 53, .int .i64 x.1),
  (some 54, .pointer (some ⟨d, 0, none⟩)),
  (some 55, .pointer (some ⟨d, 0, none⟩)),
  (some 56, .pointer (some ⟨d, 0, none⟩)),
  (some 57, .agg (cf v)),
  (some 58, .int .i64 qu),
  (some 59, .int .i64 x.2),
  (some 10, .int .i64 x.1),
  (some 11, .int .i64 x.2)]) [(0, .pointer (some ⟨d, 0, none⟩)), (8, .int .i64 st), (9, .int .i64 qu)] t0 4 := Flows.of (by kernel_rfl) hs (fun _ => by kernel_rfl) (.cons t0_0 (.cons t0_8 (.cons t0_9 .nil)))
  refine wp_flow (Wd := fun x L w => Chg No w1 w) F rfl (0, 0) (Chg.refl No w1).drew (fun i hi => ?_) (fun x L w' hl hw => hend x w' hw)
  rw [sz_n7] at hi
  match i, hi with
  | 0, _ => exact stepP F rfl (fun _ => rfl) (fun _ _ => by kernel_rfl) (fun _ => rfl) (fun _ _ _ h => h)
  | 1, _ => exact stepP F rfl (fun _ => rfl) (fun _ _ => by kernel_rfl) (fun _ => rfl) (fun _ _ _ h => h)
  | 2, _ => exact stepP F rfl (fun _ => rfl) (fun _ _ => by kernel_rfl) (fun _ => rfl) (fun _ _ _ h => h)
  | 3, _ => exact stepW (fun x => (d, 0)) F rfl (fun _ => rfl) (fun _ => rfl) rfl (fun _ => rfl) Tryz.underlying24 rfl (fun _ => by kernel_rfl) (fun x L w z1 z2 z3 h => ⟨by
      intro j hj
      rw [Nat.zero_add, (bd.kept (h)).cell]
      exact dcv_agg v g since most last j hj, h⟩)
  | 4, _ => exact stepP F rfl (fun _ => rfl) (fun _ _ => by kernel_rfl) (fun _ => rfl) (fun _ _ _ h => h)
  | 5, _ => exact stepY 95 (fun x => #[.agg (cf v), .int .i64 st]) F rfl (fun _ => rfl) (fun _ => rfl) (fun _ _ => by kernel_rfl) (fun x L w z1 z2 z3 h => (hc st w).mono fun e w' ⟨y, he, hy⟩ => ⟨(y, x.2), he, but_all (desc 5 z1 z3 (D := [5, 12]) (by kernel_rfl)) rfl, h.trans hy⟩)
  | 6, _ => exact stepP F rfl (fun _ => rfl) (fun _ _ => by kernel_rfl) (fun _ => rfl) (fun _ _ _ h => h)
  | 7, _ => exact stepP F rfl (fun _ => rfl) (fun _ _ => by kernel_rfl) (fun _ => rfl) (fun _ _ _ h => h)
  | 8, _ => exact stepP F rfl (fun _ => rfl) (fun _ _ => by kernel_rfl) (fun _ => rfl) (fun _ _ _ h => h)
  | 9, _ => exact stepW (fun x => (d, 0)) F rfl (fun _ => rfl) (fun _ => rfl) rfl (fun _ => rfl) Tryz.underlying24 rfl (fun _ => by kernel_rfl) (fun x L w z1 z2 z3 h => ⟨by
      intro j hj
      rw [Nat.zero_add, (bd.kept (h)).cell]
      exact dcv_agg v g since most last j hj, h⟩)
  | 10, _ => exact stepP F rfl (fun _ => rfl) (fun _ _ => by kernel_rfl) (fun _ => rfl) (fun _ _ _ h => h)
  | 11, _ => exact stepY 95 (fun x => #[.agg (cf v), .int .i64 qu]) F rfl (fun _ => rfl) (fun _ => rfl) (fun _ _ => by kernel_rfl) (fun x L w z1 z2 z3 h => (hc qu w).mono fun e w' ⟨y, he, hy⟩ => ⟨(x.1, y), he, but_all (desc 5 z1 z3 (D := [11, 13]) (by kernel_rfl)) rfl, h.trans hy⟩)
  | 12, _ => exact stepP F rfl (fun _ => rfl) (fun _ _ => by kernel_rfl) (fun _ => rfl) (fun _ _ _ h => h)
  | 13, _ => exact stepP F rfl (fun _ => rfl) (fun _ _ => by kernel_rfl) (fun _ => rfl) (fun _ _ _ h => h)
  | n + 14, h => exact absurd h (by omega)
noncomputable def ops_n8 : Array Oper := reg Tryz.f63 8
theorem sz_n8 : ops_n8.size = 21 := by kernel_rfl
set_option maxHeartbeats 2000000 in
set_option maxRecDepth 1000000 in
theorem wp_n8 {ops : Array Oper} (ho : ops = ops_n8) {id : Nat} {Q : Exit → Act → World → Prop} {t0 : Array Value} {w1 : World} {v : Nat → Int} {d g : Nat} {since most last : Int} (bd : Blk w1 d (dcv v g since most last) 94) {now ready b : Int} (hv : mayB v = true) (n0 : 0 ≤ now) (n1 : now ≤ 1099511627776) (s0 : -1 ≤ since) (s1 : since ≤ 1099511627776) (hs : t0.size = 151) (t0_0 : t0[0]? = some (.pointer (some ⟨d, 0, none⟩))) (t0_1 : t0[1]? = some (.int .i64 now)) (t0_2 : t0[2]? = some (.int .i64 ready)) (t0_11 : t0[11]? = some (.int .i64 b))
    (hend : ∀ (x : Bool) (w' : World), (∃ q, Chg No w1 q ∧ w' = q.setCells d 21 (#[.int .i64 (nextM v since most now x).1, .int .i64 (nextM v since most now x).2] : Array Value).toList) → Q .normal ⟨puts ([(some 60, .pointer (some ⟨d, 0, none⟩)),
  (some 61, .pointer (some ⟨d, 0, none⟩)),
  (some 62, .pointer (some ⟨d, 0, none⟩)),
  (some 63, .pointer (some ⟨d, 0, none⟩)),
  (some 64, .agg (cf v)),
  (some 65, .pointer (some ⟨d, 0, none⟩)),
  (some 66, .pointer (some ⟨d, 0, none⟩)),
  (some 67, .pointer (some ⟨d, 21, none⟩)),
  (some 68, .agg #[.int .i64 since, .int .i64 most]),
  (some 69, .int .i64 now),
  (some 70, .pointer (some ⟨d, 0, none⟩)),
  (some 71, .pointer (some ⟨d, 0, none⟩)),
  (some 72, .pointer (some ⟨d, 0, none⟩)),
  (some 73, .agg (cf v)),
  (some 74, .int .i64 b),
  (some 75, .int .i64 ready),
  (some 76, .bool x),
  (some 77, .agg #[.int .i64 (nextM v since most now x).1, .int .i64 (nextM v since most now x).2]),
  (some 78, .pointer (some ⟨d, 0, none⟩)),
  (some 79, .pointer (some ⟨d, 21, none⟩)),
  (none, undef)]) t0, []⟩ w') : (Code.region id ops true).wp Tryz.prog Q ⟨t0, []⟩ w1 := by
  subst ho
  have F : Flows (X := Bool) ops_n8 (fun x => [(some 60, .pointer (some ⟨d, 0, none⟩)),
  (some 61, .pointer (some ⟨d, 0, none⟩)),
  (some 62, .pointer (some ⟨d, 0, none⟩)),
  (some 63, .pointer (some ⟨d, 0, none⟩)),
  (some 64, .agg (cf v)),
  (some 65, .pointer (some ⟨d, 0, none⟩)),
  (some 66, .pointer (some ⟨d, 0, none⟩)),
  (some 67, .pointer (some ⟨d, 21, none⟩)),
  (some 68, .agg #[.int .i64 since, .int .i64 most]),
  (some 69, .int .i64 now),
  (some 70, .pointer (some ⟨d, 0, none⟩)),
  (some 71, .pointer (some ⟨d, 0, none⟩)),
  (some 72, .pointer (some ⟨d, 0, none⟩)),
  (some 73, .agg (cf v)),
  (some 74, .int .i64 b),
  (some 75, .int .i64 ready),
  (some 76, .bool x),
  (some 77, .agg #[.int .i64 (nextM v since most now x).1, .int .i64 (nextM v since most now x).2]),
  (some 78, .pointer (some ⟨d, 0, none⟩)),
  (some 79, .pointer (some ⟨d, 21, none⟩)),
  (none, undef)]) [(0, .pointer (some ⟨d, 0, none⟩)), (1, .int .i64 now), (2, .int .i64 ready), (11, .int .i64 b)] t0 8 := Flows.of (by kernel_rfl) hs (fun _ => by kernel_rfl) (.cons t0_0 (.cons t0_1 (.cons t0_2 (.cons t0_11 .nil))))
  have no20 : ∀ (L : Nat → Bool) (i m : Nat), anc ops_n8 m 20 i = true → (∀ k, L k = true → ∀ m, anc ops_n8 m k i = false) → L 20 = false := fun L i m ha h => by
    cases hl : L 20 with
    | false => rfl
    | true => rw [h 20 hl m] at ha; cases ha
  refine wp_flow (Wd := fun x L w => (L 20 = false → Chg No w1 w) ∧ (L 20 = true → ∃ q, Chg No w1 q ∧ w = q.setCells d 21 (#[.int .i64 (nextM v since most now x).1, .int .i64 (nextM v since most now x).2] : Array Value).toList)) F rfl false ⟨fun _ => (Chg.refl No w1).drew, fun h => nomatch h⟩ (fun i hi => ?_) (fun x L w' hl hw => hend x w' (hw.2 (hl 20 (by rw [sz_n8]; decide))))
  rw [sz_n8] at hi
  match i, hi with
  | 0, _ => exact stepP F rfl (fun _ => rfl) (fun _ _ => by kernel_rfl) (fun _ => rfl) (fun _ _ _ h => h)
  | 1, _ => exact stepP F rfl (fun _ => rfl) (fun _ _ => by kernel_rfl) (fun _ => rfl) (fun _ _ _ h => h)
  | 2, _ => exact stepP F rfl (fun _ => rfl) (fun _ _ => by kernel_rfl) (fun _ => rfl) (fun _ _ _ h => h)
  | 3, _ => exact stepP F rfl (fun _ => rfl) (fun _ _ => by kernel_rfl) (fun _ => rfl) (fun _ _ _ h => h)
  | 4, _ => exact stepW (fun x => (d, 0)) F rfl (fun _ => rfl) (fun _ => rfl) rfl (fun _ => rfl) Tryz.underlying24 rfl (fun _ => by kernel_rfl) (fun x L w z1 z2 z3 h => ⟨by
      intro j hj
      rw [Nat.zero_add, (bd.kept (h.1 (no20 L 4 8 (by kernel_rfl) z3))).cell]
      exact dcv_agg v g since most last j hj, h⟩)
  | 5, _ => exact stepP F rfl (fun _ => rfl) (fun _ _ => by kernel_rfl) (fun _ => rfl) (fun _ _ _ h => h)
  | 6, _ => exact stepP F rfl (fun _ => rfl) (fun _ _ => by kernel_rfl) (fun _ => rfl) (fun _ _ _ h => h)
  | 7, _ => exact stepP F rfl (fun _ => rfl) (fun _ _ => by kernel_rfl) (fun _ => rfl) (fun _ _ _ h => h)
  | 8, _ => exact stepW (fun x => (d, 21)) F rfl (fun _ => rfl) (fun _ => rfl) rfl (fun _ => rfl) Tryz.underlying91 rfl (fun _ => by kernel_rfl) (fun x L w z1 z2 z3 h => ⟨by
      intro j hj
      rw [(bd.kept (h.1 (no20 L 8 8 (by kernel_rfl) z3))).cell]
      exact dcv_mode v g since most last j hj, h⟩)
  | 9, _ => exact stepP F rfl (fun _ => rfl) (fun _ _ => by kernel_rfl) (fun _ => rfl) (fun _ _ _ h => h)
  | 10, _ => exact stepP F rfl (fun _ => rfl) (fun _ _ => by kernel_rfl) (fun _ => rfl) (fun _ _ _ h => h)
  | 11, _ => exact stepP F rfl (fun _ => rfl) (fun _ _ => by kernel_rfl) (fun _ => rfl) (fun _ _ _ h => h)
  | 12, _ => exact stepP F rfl (fun _ => rfl) (fun _ _ => by kernel_rfl) (fun _ => rfl) (fun _ _ _ h => h)
  | 13, _ => exact stepW (fun x => (d, 0)) F rfl (fun _ => rfl) (fun _ => rfl) rfl (fun _ => rfl) Tryz.underlying24 rfl (fun _ => by kernel_rfl) (fun x L w z1 z2 z3 h => ⟨by
      intro j hj
      rw [Nat.zero_add, (bd.kept (h.1 (no20 L 13 8 (by kernel_rfl) z3))).cell]
      exact dcv_agg v g since most last j hj, h⟩)
  | 14, _ => exact stepP F rfl (fun _ => rfl) (fun _ _ => by kernel_rfl) (fun _ => rfl) (fun _ _ _ h => h)
  | 15, _ => exact stepP F rfl (fun _ => rfl) (fun _ _ => by kernel_rfl) (fun _ => rfl) (fun _ _ _ h => h)
  | 16, _ => exact stepY 97 (fun x => #[.agg (cf v), .int .i64 b, .int .i64 ready]) F rfl (fun _ => rfl) (fun _ => rfl) (fun _ _ => by kernel_rfl) (fun x L w z1 z2 z3 h => by
      have hn := no20 L 16 8 (by kernel_rfl) z3
      exact (over_w v hv b ready w).mono fun e w' ⟨y, he, hy⟩ => ⟨y, he, but_all (desc 5 z1 z3 (D := [16, 17]) (by kernel_rfl)) rfl, (fun _ => (h.1 hn).trans hy), fun h => absurd (hn.symm.trans h) (by decide)⟩)
  | 17, _ => exact stepC 96 (fun x => #[.agg (cf v), .agg #[.int .i64 since, .int .i64 most], .int .i64 now, .bool x]) F rfl (fun _ => rfl) (fun _ => rfl) (fun _ _ => by kernel_rfl) (fun x L w z1 z2 z3 h => by
      have hn := no20 L 17 8 (by kernel_rfl) z3
      exact (mode_w v hv since most now x w n0 n1 s0 s1).mono fun e w' ⟨a, b⟩ => ⟨a, (fun _ => (h.1 hn).trans b), fun h => absurd (hn.symm.trans h) (by decide)⟩)
  | 18, _ => exact stepP F rfl (fun _ => rfl) (fun _ _ => by kernel_rfl) (fun _ => rfl) (fun _ _ _ h => h)
  | 19, _ => exact stepP F rfl (fun _ => rfl) (fun _ _ => by kernel_rfl) (fun _ => rfl) (fun _ _ _ h => h)
  | 20, _ => exact stepRS (fun x => (d, 21)) F rfl (fun _ => rfl) (fun _ => rfl) rfl rfl (fun _ => rfl) (fun _ => rfl) (fun _ => by kernel_rfl) (fun _ => by kernel_rfl) (fun x L w z1 z2 z3 h => by
      refine ⟨fun j hj => ?_, (fun h => nomatch h), fun _ => ⟨w, h.1 z1, rfl⟩⟩
      have hb := bd.kept (h.1 z1)
      rw [hb.cell, hb.free, dcv_mode v g since most last j hj]
      exact ⟨match j, hj with
        | 0, _ => rfl
        | 1, _ => rfl
        | n + 2, h => absurd h (by show ¬ n + 2 < 2; omega), rfl⟩)
  | n + 21, h => exact absurd h (by omega)
end Go.Proofs.YtdgphoemjeakaaaGreatDoor.Wj
namespace Go.Proofs.YtdgphoemjeakaaaGreatDoor.Wj
open De (gc)
open Go.RowKit K P U Mg Wk
open W Rg
noncomputable def ops_n13 : Array Oper := reg Tryz.f63 13
theorem sz_n13 : ops_n13.size = 17 := by kernel_rfl
set_option maxHeartbeats 2000000 in
set_option maxRecDepth 1000000 in
theorem wp_n13 {ops : Array Oper} (ho : ops = ops_n13) {id : Nat} {Q : Exit → Act → World → Prop} {t0 : Array Value} {w1 : World} {v : Nat → Int} {d g m hh : Nat} {since most last : Int} (bd : Blk w1 d (dcv v g since most last) 94) (bg : Blk w1 g (gc m hh) 20) {now : Int} (hc : ∀ w, Chg No w1 w → Calls Tryz.prog 102 #[.pointer (some ⟨hh, 0, none⟩), .int .i64 now] w (Uno w)) (hs : t0.size = 151) (t0_0 : t0[0]? = some (.pointer (some ⟨d, 0, none⟩))) (t0_1 : t0[1]? = some (.int .i64 now))
    (hend : ∀ (x : Int) (w' : World), (∃ q, Chg No w1 q ∧ w' = q.setCells d 21 (#[.int .i64 since, .int .i64 (keep since most x).1] : Array Value).toList) → Q .normal ⟨puts ([(some 107, .pointer (some ⟨d, 0, none⟩)),
  (some 108, .pointer (some ⟨d, 0, none⟩)),
  (some 109, .pointer (some ⟨d, 0, none⟩)),
  (some 110, .pointer (some ⟨d, 21, none⟩)),
  (some 111, .agg #[.int .i64 since, .int .i64 most]),
  (some 112, .pointer (some ⟨d, 0, none⟩)),
  (some 113, .pointer (some ⟨hh, 0, none⟩)),
  (some 114, .int .i64 now),
  (some 115, .int .i64 x),
  (some 116, .tuple #[.agg #[.int .i64 since, .int .i64 (keep since most x).1], .int .i64 (keep since most x).2]),
  (some 106, .tuple #[.agg #[.int .i64 since, .int .i64 (keep since most x).1], .int .i64 (keep since most x).2]),
  (some 117, .agg #[.int .i64 since, .int .i64 (keep since most x).1]),
  (some 118, .int .i64 (keep since most x).2),
  (some 119, .pointer (some ⟨d, 0, none⟩)),
  (some 120, .pointer (some ⟨d, 21, none⟩)),
  (none, undef),
  (some 12, .int .i64 (keep since most x).2)]) t0, []⟩ w') : (Code.region id ops true).wp Tryz.prog Q ⟨t0, []⟩ w1 := by
  subst ho
  have F : Flows (X := Int) ops_n13 (fun x => [(some 107, .pointer (some ⟨d, 0, none⟩)),
  (some 108, .pointer (some ⟨d, 0, none⟩)),
  (some 109, .pointer (some ⟨d, 0, none⟩)),
  (some 110, .pointer (some ⟨d, 21, none⟩)),
  (some 111, .agg #[.int .i64 since, .int .i64 most]),
  (some 112, .pointer (some ⟨d, 0, none⟩)),
  (some 113, .pointer (some ⟨hh, 0, none⟩)),
  (some 114, .int .i64 now),
  (some 115, .int .i64 x),
  (some 116, .tuple #[.agg #[.int .i64 since, .int .i64 (keep since most x).1], .int .i64 (keep since most x).2]),
  (some 106, .tuple #[.agg #[.int .i64 since, .int .i64 (keep since most x).1], .int .i64 (keep since most x).2]),
  (some 117, .agg #[.int .i64 since, .int .i64 (keep since most x).1]),
  (some 118, .int .i64 (keep since most x).2),
  (some 119, .pointer (some ⟨d, 0, none⟩)),
  (some 120, .pointer (some ⟨d, 21, none⟩)),
  (none, undef),
  (some 12, .int .i64 (keep since most x).2)]) [(0, .pointer (some ⟨d, 0, none⟩)), (1, .int .i64 now)] t0 8 := Flows.of (by kernel_rfl) hs (fun _ => by kernel_rfl) (.cons t0_0 (.cons t0_1 .nil))
  have no15 : ∀ (L : Nat → Bool) (i m : Nat), anc ops_n13 m 15 i = true → (∀ k, L k = true → ∀ m, anc ops_n13 m k i = false) → L 15 = false := fun L i m ha h => by
    cases hl : L 15 with
    | false => rfl
    | true => rw [h 15 hl m] at ha; cases ha
  refine wp_flow (Wd := fun x L w => (L 15 = false → Chg No w1 w) ∧ (L 15 = true → ∃ q, Chg No w1 q ∧ w = q.setCells d 21 (#[.int .i64 since, .int .i64 (keep since most x).1] : Array Value).toList)) F rfl 0 ⟨fun _ => (Chg.refl No w1).drew, fun h => nomatch h⟩ (fun i hi => ?_) (fun x L w' hl hw => hend x w' (hw.2 (hl 15 (by rw [sz_n13]; decide))))
  rw [sz_n13] at hi
  match i, hi with
  | 0, _ => exact stepP F rfl (fun _ => rfl) (fun _ _ => by kernel_rfl) (fun _ => rfl) (fun _ _ _ h => h)
  | 1, _ => exact stepP F rfl (fun _ => rfl) (fun _ _ => by kernel_rfl) (fun _ => rfl) (fun _ _ _ h => h)
  | 2, _ => exact stepP F rfl (fun _ => rfl) (fun _ _ => by kernel_rfl) (fun _ => rfl) (fun _ _ _ h => h)
  | 3, _ => exact stepP F rfl (fun _ => rfl) (fun _ _ => by kernel_rfl) (fun _ => rfl) (fun _ _ _ h => h)
  | 4, _ => exact stepW (fun x => (d, 21)) F rfl (fun _ => rfl) (fun _ => rfl) rfl (fun _ => rfl) Tryz.underlying91 rfl (fun _ => by kernel_rfl) (fun x L w z1 z2 z3 h => ⟨by
      intro j hj
      rw [(bd.kept (h.1 (no15 L 4 8 (by kernel_rfl) z3))).cell]
      exact dcv_mode v g since most last j hj, h⟩)
  | 5, _ => exact stepP F rfl (fun _ => rfl) (fun _ _ => by kernel_rfl) (fun _ => rfl) (fun _ _ _ h => h)
  | 6, _ => exact stepC 88 (fun x => #[.pointer (some ⟨d, 0, none⟩)]) F rfl (fun _ => rfl) (fun _ => rfl) (fun _ _ => by kernel_rfl) (fun x L w z1 z2 z3 h => by
      have hq := h.1 (no15 L 6 8 (by kernel_rfl) z3)
      exact (holds_any v d g _ _ since most last _ (bd.kept hq) (bg.kept hq)).mono fun e w' ⟨a, b⟩ => ⟨a, b ▸ h⟩)
  | 7, _ => exact stepP F rfl (fun _ => rfl) (fun _ _ => by kernel_rfl) (fun _ => rfl) (fun _ _ _ h => h)
  | 8, _ => exact stepY 102 (fun x => #[.pointer (some ⟨hh, 0, none⟩), .int .i64 now]) F rfl (fun _ => rfl) (fun _ => rfl) (fun _ _ => by kernel_rfl) (fun x L w z1 z2 z3 h => by
      have hn := no15 L 8 8 (by kernel_rfl) z3
      exact (hc w (h.1 hn)).mono fun e w' ⟨y, he, hy⟩ => ⟨y, he, but_all (desc 8 z1 z3 (D := [8, 9, 10, 11, 12, 16]) (by kernel_rfl)) rfl, (fun _ => (h.1 hn).trans hy), fun h => absurd (hn.symm.trans h) (by decide)⟩)
  | 9, _ => exact stepC 101 (fun x => #[.agg #[.int .i64 since, .int .i64 most], .int .i64 x]) F rfl (fun _ => rfl) (fun _ => rfl) (fun _ _ => by kernel_rfl) (fun x L w z1 z2 z3 h => by
      have hn := no15 L 9 8 (by kernel_rfl) z3
      exact (keep_any since most x w).mono fun e w' ⟨a, b⟩ => ⟨a, (fun _ => (h.1 hn).trans b), fun h => absurd (hn.symm.trans h) (by decide)⟩)
  | 10, _ => exact stepP F rfl (fun _ => rfl) (fun _ _ => by kernel_rfl) (fun _ => rfl) (fun _ _ _ h => h)
  | 11, _ => exact stepP F rfl (fun _ => rfl) (fun _ _ => by kernel_rfl) (fun _ => rfl) (fun _ _ _ h => h)
  | 12, _ => exact stepP F rfl (fun _ => rfl) (fun _ _ => by kernel_rfl) (fun _ => rfl) (fun _ _ _ h => h)
  | 13, _ => exact stepP F rfl (fun _ => rfl) (fun _ _ => by kernel_rfl) (fun _ => rfl) (fun _ _ _ h => h)
  | 14, _ => exact stepP F rfl (fun _ => rfl) (fun _ _ => by kernel_rfl) (fun _ => rfl) (fun _ _ _ h => h)
  | 15, _ => exact stepRS (fun x => (d, 21)) F rfl (fun _ => rfl) (fun _ => rfl) rfl rfl (fun _ => rfl) (fun _ => rfl) (fun _ => by kernel_rfl) (fun _ => by kernel_rfl) (fun x L w z1 z2 z3 h => by
      refine ⟨fun j hj => ?_, (fun h => nomatch h), fun _ => ⟨w, h.1 z1, rfl⟩⟩
      have hb := bd.kept (h.1 z1)
      rw [hb.cell, hb.free, dcv_mode v g since most last j hj]
      exact ⟨match j, hj with
        | 0, _ => rfl
        | 1, _ => rfl
        | n + 2, h => absurd h (by show ¬ n + 2 < 2; omega), rfl⟩)
  | 16, _ => exact stepP F rfl (fun _ => rfl) (fun _ _ => by kernel_rfl) (fun _ => rfl) (fun _ _ _ h => h)
  | n + 17, h => exact absurd h (by omega)
noncomputable def ops_n15 : Array Oper := reg Tryz.f63 15
theorem sz_n15 : ops_n15.size = 19 := by kernel_rfl
set_option maxHeartbeats 2000000 in
set_option maxRecDepth 1000000 in
theorem wp_n15 {ops : Array Oper} (ho : ops = ops_n15) {id : Nat} {Q : Exit → Act → World → Prop} {t0 : Array Value} {w1 : World} {v : Nat → Int} {d g : Nat} {since most last : Int} (bd : Blk w1 d (dcv v g since most last) 94) {cs : Array Value} {B : Nat} (bB : Blk w1 B cs 63) (hz : cs.size = 6) {now st qu wn ready : Int} (hv : mayB v = true) (r0 : 0 ≤ ready) (r1 : ready ≤ 1000) (hs : t0.size = 151) (t0_0 : t0[0]? = some (.pointer (some ⟨d, 0, none⟩))) (t0_1 : t0[1]? = some (.int .i64 now)) (t0_2 : t0[2]? = some (.int .i64 ready)) (t0_6 : t0[6]? = some (.pointer (some ⟨B, 0, none⟩))) (t0_8 : t0[8]? = some (.int .i64 st)) (t0_9 : t0[9]? = some (.int .i64 qu)) (t0_12 : t0[12]? = some (.int .i64 wn))
    (hend : ∀ (x : Int) (w' : World), (∃ q, Chg No w1 q ∧ w' = q.setCells B 0 (#[.int .i64 now, .int .i64 st, .int .i64 qu, .int .i64 wn, .bool (decide (0 ≤ since)), .int .i64 x] : Array Value).toList) → Q .normal ⟨puts ([(some 134, .int .i64 now),
  (some 135, .int .i64 st),
  (some 136, .int .i64 qu),
  (some 137, .int .i64 wn),
  (some 138, .pointer (some ⟨d, 0, none⟩)),
  (some 139, .pointer (some ⟨d, 0, none⟩)),
  (some 140, .pointer (some ⟨d, 21, none⟩)),
  (some 141, .agg #[.int .i64 since, .int .i64 most]),
  (some 142, .bool (decide (0 ≤ since))),
  (some 143, .pointer (some ⟨d, 0, none⟩)),
  (some 144, .pointer (some ⟨d, 0, none⟩)),
  (some 145, .pointer (some ⟨d, 0, none⟩)),
  (some 146, .agg (cf v)),
  (some 147, .int .i64 ready),
  (some 148, .int .i64 qu),
  (some 149, .int .i64 x),
  (some 150, .agg #[.int .i64 now, .int .i64 st, .int .i64 qu, .int .i64 wn, .bool (decide (0 ≤ since)), .int .i64 x]),
  (none, undef),
  (some 7, .int .i64 0)]) t0, []⟩ w') : (Code.region id ops true).wp Tryz.prog Q ⟨t0, []⟩ w1 := by
  subst ho
  have F : Flows (X := Int) ops_n15 (fun x => [(some 134, .int .i64 now),
  (some 135, .int .i64 st),
  (some 136, .int .i64 qu),
  (some 137, .int .i64 wn),
  (some 138, .pointer (some ⟨d, 0, none⟩)),
  (some 139, .pointer (some ⟨d, 0, none⟩)),
  (some 140, .pointer (some ⟨d, 21, none⟩)),
  (some 141, .agg #[.int .i64 since, .int .i64 most]),
  (some 142, .bool (decide (0 ≤ since))),
  (some 143, .pointer (some ⟨d, 0, none⟩)),
  (some 144, .pointer (some ⟨d, 0, none⟩)),
  (some 145, .pointer (some ⟨d, 0, none⟩)),
  (some 146, .agg (cf v)),
  (some 147, .int .i64 ready),
  (some 148, .int .i64 qu),
  (some 149, .int .i64 x),
  (some 150, .agg #[.int .i64 now, .int .i64 st, .int .i64 qu, .int .i64 wn, .bool (decide (0 ≤ since)), .int .i64 x]),
  (none, undef),
  (some 7, .int .i64 0)]) [(0, .pointer (some ⟨d, 0, none⟩)), (1, .int .i64 now), (2, .int .i64 ready), (6, .pointer (some ⟨B, 0, none⟩)), (8, .int .i64 st), (9, .int .i64 qu), (12, .int .i64 wn)] t0 8 := Flows.of (by kernel_rfl) hs (fun _ => by kernel_rfl) (.cons t0_0 (.cons t0_1 (.cons t0_2 (.cons t0_6 (.cons t0_8 (.cons t0_9 (.cons t0_12 .nil)))))))
  have no17 : ∀ (L : Nat → Bool) (i m : Nat), anc ops_n15 m 17 i = true → (∀ k, L k = true → ∀ m, anc ops_n15 m k i = false) → L 17 = false := fun L i m ha h => by
    cases hl : L 17 with
    | false => rfl
    | true => rw [h 17 hl m] at ha; cases ha
  refine wp_flow (Wd := fun x L w => (L 17 = false → Chg No w1 w) ∧ (L 17 = true → ∃ q, Chg No w1 q ∧ w = q.setCells B 0 (#[.int .i64 now, .int .i64 st, .int .i64 qu, .int .i64 wn, .bool (decide (0 ≤ since)), .int .i64 x] : Array Value).toList)) F rfl 0 ⟨fun _ => (Chg.refl No w1).drew, fun h => nomatch h⟩ (fun i hi => ?_) (fun x L w' hl hw => hend x w' (hw.2 (hl 17 (by rw [sz_n15]; decide))))
  rw [sz_n15] at hi
  match i, hi with
  | 0, _ => exact stepP F rfl (fun _ => rfl) (fun _ _ => by kernel_rfl) (fun _ => rfl) (fun _ _ _ h => h)
  | 1, _ => exact stepP F rfl (fun _ => rfl) (fun _ _ => by kernel_rfl) (fun _ => rfl) (fun _ _ _ h => h)
  | 2, _ => exact stepP F rfl (fun _ => rfl) (fun _ _ => by kernel_rfl) (fun _ => rfl) (fun _ _ _ h => h)
  | 3, _ => exact stepP F rfl (fun _ => rfl) (fun _ _ => by kernel_rfl) (fun _ => rfl) (fun _ _ _ h => h)
  | 4, _ => exact stepP F rfl (fun _ => rfl) (fun _ _ => by kernel_rfl) (fun _ => rfl) (fun _ _ _ h => h)
  | 5, _ => exact stepP F rfl (fun _ => rfl) (fun _ _ => by kernel_rfl) (fun _ => rfl) (fun _ _ _ h => h)
  | 6, _ => exact stepP F rfl (fun _ => rfl) (fun _ _ => by kernel_rfl) (fun _ => rfl) (fun _ _ _ h => h)
  | 7, _ => exact stepW (fun x => (d, 21)) F rfl (fun _ => rfl) (fun _ => rfl) rfl (fun _ => rfl) Tryz.underlying91 rfl (fun _ => by kernel_rfl) (fun x L w z1 z2 z3 h => ⟨by
      intro j hj
      rw [(bd.kept (h.1 (no17 L 7 8 (by kernel_rfl) z3))).cell]
      exact dcv_mode v g since most last j hj, h⟩)
  | 8, _ => exact stepC 99 (fun x => #[.agg #[.int .i64 since, .int .i64 most]]) F rfl (fun _ => rfl) (fun _ => rfl) (fun _ _ => by kernel_rfl) (fun x L w z1 z2 z3 h => by
      have hn := no17 L 8 8 (by kernel_rfl) z3
      exact (is_any since most w).mono fun e w' ⟨a, b⟩ => ⟨a, (fun _ => (h.1 hn).trans b), fun h => absurd (hn.symm.trans h) (by decide)⟩)
  | 9, _ => exact stepP F rfl (fun _ => rfl) (fun _ _ => by kernel_rfl) (fun _ => rfl) (fun _ _ _ h => h)
  | 10, _ => exact stepP F rfl (fun _ => rfl) (fun _ _ => by kernel_rfl) (fun _ => rfl) (fun _ _ _ h => h)
  | 11, _ => exact stepP F rfl (fun _ => rfl) (fun _ _ => by kernel_rfl) (fun _ => rfl) (fun _ _ _ h => h)
  | 12, _ => exact stepW (fun x => (d, 0)) F rfl (fun _ => rfl) (fun _ => rfl) rfl (fun _ => rfl) Tryz.underlying24 rfl (fun _ => by kernel_rfl) (fun x L w z1 z2 z3 h => ⟨by
      intro j hj
      rw [Nat.zero_add, (bd.kept (h.1 (no17 L 12 8 (by kernel_rfl) z3))).cell]
      exact dcv_agg v g since most last j hj, h⟩)
  | 13, _ => exact stepP F rfl (fun _ => rfl) (fun _ _ => by kernel_rfl) (fun _ => rfl) (fun _ _ _ h => h)
  | 14, _ => exact stepP F rfl (fun _ => rfl) (fun _ _ => by kernel_rfl) (fun _ => rfl) (fun _ _ _ h => h)
  | 15, _ => exact stepY 25 (fun x => #[.agg (cf v), .int .i64 ready, .int .i64 qu]) F rfl (fun _ => rfl) (fun _ => rfl) (fun _ _ => by kernel_rfl) (fun x L w z1 z2 z3 h => by
      have hn := no17 L 15 8 (by kernel_rfl) z3
      exact (excess_w v hv ready qu w r0 r1).mono fun e w' ⟨y, he, hy⟩ => ⟨y, he, but_all (desc 8 z1 z3 (D := [15, 16]) (by kernel_rfl)) rfl, (fun _ => (h.1 hn).trans hy), fun h => absurd (hn.symm.trans h) (by decide)⟩)
  | 16, _ => exact stepP F rfl (fun _ => rfl) (fun _ _ => by kernel_rfl) (fun _ => rfl) (fun _ _ _ h => h)
  | 17, _ => exact stepRS (fun x => (B, 0)) F rfl (fun _ => rfl) (fun _ => rfl) rfl rfl (fun _ => rfl) (fun _ => rfl) (fun _ => by kernel_rfl) (fun _ => by kernel_rfl) (fun x L w z1 z2 z3 h => by
      refine ⟨fun j hj => ?_, (fun h => nomatch h), fun _ => ⟨w, h.1 z1, rfl⟩⟩
      have hb := bB.kept (h.1 z1)
      rw [Nat.zero_add, hb.cell, hb.free, Array.getElem?_eq_getElem (by rw [hz]; exact hj)]
      exact ⟨rfl, rfl⟩)
  | 18, _ => exact stepP F rfl (fun _ => rfl) (fun _ _ => by kernel_rfl) (fun _ => rfl) (fun _ _ _ h => h)
  | n + 19, h => exact absurd h (by omega)
end Go.Proofs.YtdgphoemjeakaaaGreatDoor.Wj
namespace Go.Proofs.YtdgphoemjeakaaaGreatDoor.Wj
open De (gc)
open Go.RowKit K P U Mg Wk
def Nw (v : Nat → Int) (d g m h : Nat) (w0 : World) (S : Nat → Prop) (B k : Nat) (T since most last : Int) (cs : Array Value) (w : World) : Prop :=
  w0.heap.size ≤ B ∧ ∃ A : Nat → Prop, D2 v v d g m h k T since most last w A ∧ ¬ A B ∧ Blk w B cs 63 ∧ (∀ q, A q → S q ∨ w0.heap.size ≤ q) ∧ Chg S w0 w
section
variable {v : Nat → Int} {d g m h B k k' : Nat} {w0 w w' : World} {S : Nat → Prop} {T T' since most last since' most' last' : Int} {cs cs' : Array Value}
theorem Nw.blk (x : Nw v d g m h w0 S B k T since most last cs w) : Blk w d (dcv v g since most last) 94 := x.2.choose_spec.1.blk
theorem Nw.gblk (x : Nw v d g m h w0 S B k T since most last cs w) : Blk w g (gc m h) 20 := x.2.choose_spec.1.gblk
theorem Nw.res (x : Nw v d g m h w0 S B k T since most last cs w) : Blk w B cs 63 := x.2.choose_spec.2.2.1
theorem Nw.row (x : Nw v d g m h w0 S B k T since most last cs w) : rowOf w d 0 20 = some (.agg (cf v)) := by
  have : rowOf w d 0 (cf v).size = some (.agg (cf v)) := rowOf_of fun j hj => by
    rw [Nat.zero_add, x.blk.cell]
    exact dcv_agg v g since most last j hj
  rwa [cf_size] at this
theorem Nw.no (x : Nw v d g m h w0 S B k T since most last cs w) (c : Chg No w w') : Nw v d g m h w0 S B k T since most last cs w' := by
  obtain ⟨hB, A, h1, h2, h3, h4, h5⟩ := x
  exact ⟨hB, A, D2.good.kept h1 c, h2, h3.kept c, h4, h5.trans c.of_no⟩
theorem Nw.step {A : Nat → Prop} (hB : w0.heap.size ≤ B) (h2 : ¬ A B) (h3 : Blk w B cs 63) (h4 : ∀ q, A q → S q ∨ w0.heap.size ≤ q) (h5 : Chg S w0 w) (n : D2 v v d g m h k T since most last w' (K.nx A w w') ∧ Chg A w w') : Nw v d g m h w0 S B k T since most last cs w' := by
  have l := h5.size
  refine ⟨hB, _, n.1, fun h => ?_, h3.chg n.2 h2, fun q hq => hq.1.elim (h4 q) (fun h => .inr (Nat.le_trans l h)), h5.step n.2 fun q hq hs => (h4 q hs).resolve_right (by omega)⟩
  rcases h.1 with h | h
  · exact h2 h
  · have := h3.lt; omega
theorem Nw.turn (x : Nw v d g m h w0 S B k T since most last cs w) (c : Chg (fun q => q = d) w w') (hb : Blk w' d (dcv v g since' most' last') 94) : Nw v d g m h w0 S B k T since' most' last' cs w' := by
  obtain ⟨hB, A, h1, h2, h3, h4, h5⟩ := x
  exact Nw.step hB h2 h3 h4 h5 (h1.turn c hb)
theorem Nw.met (x : Nw v d g m h w0 S B k T since most last cs w) : ∃ A : Nat → Prop, Wg.Met v m k w A ∧ ∀ (k' : Nat) (w' : World), k ≤ k' → Wg.Met v m k' w' (K.nx A w w') → Chg A w w' → Nw v d g m h w0 S B k' T since most last cs w' := by
  obtain ⟨hB, A, h1, h2, h3, h4, h5⟩ := x
  obtain ⟨C, hm, -, back⟩ := h1.met
  exact ⟨C, hm, fun k' w' hk hm' hc => Nw.step hB h2 h3 h4 h5 (back v k' w' hk hm' hc)⟩
theorem Nw.del (x : Nw v d g m h w0 S B k T since most last cs w) : ∃ A : Nat → Prop, Del h k T w A ∧ ∀ (k' : Nat) (T' : Int) (w' : World), k ≤ k' → Del h k' T' w' (K.nx A w w') → Chg A w w' → Nw v d g m h w0 S B k' T' since most last cs w' := by
  obtain ⟨hB, A, h1, h2, h3, h4, h5⟩ := x
  obtain ⟨C, hm, -, back⟩ := h1.del
  exact ⟨C, hm, fun k' T' w' hk hm' hc => Nw.step hB h2 h3 h4 h5 (back k' T' w' hk hm' hc)⟩
theorem Nw.put (x : Nw v d g m h w0 S B k T since most last cs w) (c : Chg (fun q => q = B) w w') (hb : Blk w' B cs' 63) : Nw v d g m h w0 S B k T since most last cs' w' := by
  obtain ⟨hB, A, h1, h2, h3, h4, h5⟩ := x
  exact ⟨hB, A, D2.good.chg h1 c (fun q ha hq => h2 (hq ▸ ha)), h2, hb, h4, h5.step c fun q hq hs => absurd hs (by omega)⟩
theorem Nw.done (x : Nw v d g m h w0 S B k T since most last cs w) : D2 v v d g m h k T since most last w (K.nx S w0 w) ∧ Chg S w0 w := by
  obtain ⟨_, A, h1, h2, h3, h4, h5⟩ := x
  exact ⟨D2.wide.mono h1 (fun q hq => ⟨h4 q hq, D2.good.bd h1 q hq⟩) fun _ hq => hq.2, h5⟩
theorem Nw.start (x : D2 v v d g m h k T since most last w0 S) (now : Int) (cs : Array Value) : Nw v d g m h w0 S w0.heap.size k T since most now cs ((w0.setCell ⟨d, 23, none⟩ (.int .i64 now)).alloc (.cells cs 63)) := by
  obtain ⟨g1, g2⟩ := x.cell 23 (.int .i64 now) (dcv_set23 v g since most last now)
  have hs : (w0.setCell ⟨d, 23, none⟩ (.int .i64 now)).heap.size = w0.heap.size := by simp [World.setCell]
  refine ⟨Nat.le_refl _, _, D2.good.kept g1 ((Chg.refl No _).alloc _), fun hB => ?_, ?_, fun q hq => hq.1, g2.alloc _⟩
  · have := hB.2; omega
  · have := Blk.new (w0.setCell ⟨d, 23, none⟩ (.int .i64 now)) cs 63
    rwa [hs] at this
theorem Nw.modes (x : Nw v d g m h w0 S B k T since most last cs w) (since' most' : Int) : Nw v d g m h w0 S B k T since' most' last cs (w.setCells d 21 (#[.int .i64 since', .int .i64 most'] : Array Value).toList) :=
  x.turn (Tx.chg_puts _ _ _ (Chg.refl _ _)) (Tx.blk_puts (B := d) (t := 94) (#[.int .i64 since', .int .i64 most'] : Array Value).toList 21 w _ x.blk)
end
theorem nextM_bd (v : Nat → Int) (since most now : Int) (o : Bool) (n0 : 0 ≤ now) (s0 : -1 ≤ since) (s1 : since ≤ now) : -1 ≤ (nextM v since most now o).1 ∧ (nextM v since most now o).1 ≤ now := by
  unfold nextM
  (repeat' split) <;> exact ⟨by dsimp only; omega, by dsimp only; omega⟩
theorem limV_bd (v : Nat → Int) (hv : mayB v = true) (y ready : Int) (r0 : 0 ≤ ready) (r1 : ready ≤ 1000) : 0 ≤ limV v y ready ∧ limV v y ready ≤ 1000000 := by
  obtain ⟨-, -, -, -, -, ⟨a0, a1⟩, ⟨b0, b1⟩, -⟩ := may_bd hv
  have l0 : 0 ≤ leastR v ready := Int.ediv_nonneg (by omega) (by omega)
  have p0 : 0 ≤ v 6 * max ready 1 := Int.mul_nonneg (by omega) (by omega)
  have u0 := (up_bd (a := v 6 * max ready 1) (b := 1000) p0 (by omega)).1
  unfold limV mostR
  omega
end Go.Proofs.YtdgphoemjeakaaaGreatDoor.Wj
