/- A decider of whatever numbers: Next. What is known of the decider at any settings. -/
import Derived.Test.YtdgphoemjeakaaaGreatDoorR36
import Derived.Test.YtdgphoemjeakaaaGreatDoorR09
namespace Go.Proofs.YtdgphoemjeakaaaGreatDoor.Wj
open De (gc)
open Go.RowKit K P U Mg Wk
set_option maxRecDepth 100000
abbrev zz : Array Value := #[.int .i64 0, .int .i64 0, .int .i64 0, .int .i64 0, .bool false, .int .i64 0]
theorem Nw.z {v : Nat → Int} {d g m h B k : Nat} {w0 w : World} {S : Nat → Prop} {T since most last : Int} {cs : Array Value} (x : Nw v d g m h w0 S B k T since most last cs w) :
    Hid (Nw v d g m h w0 S B k T since most last cs w) ∧ rowOf w d 0 20 = some (.agg (cf v)) ∧ w.cell? ⟨d, 8, none⟩ = some (.int .i64 (v 8)) := ⟨x, x.row, by rw [x.blk.cell]; rfl⟩
theorem Nw.z2 {v : Nat → Int} {d g m h B k : Nat} {w0 w w' : World} {S : Nat → Prop} {T since most last : Int} {cs : Array Value} (x : Hid (Nw v d g m h w0 S B k T since most last cs w) ∧ rowOf w d 0 20 = some (.agg (cf v)) ∧ w.cell? ⟨d, 8, none⟩ = some (.int .i64 (v 8))) (c : Chg No w w') :
    Hid (Nw v d g m h w0 S B k T since most last cs w') ∧ rowOf w' d 0 20 = some (.agg (cf v)) ∧ w'.cell? ⟨d, 8, none⟩ = some (.int .i64 (v 8)) := (x.1.out.no c).z
theorem zz_put (a b c d e f : Value) : Tx.aput zz 0 (#[a, b, c, d, e, f] : Array Value).toList = #[a, b, c, d, e, f] := rfl
theorem Nw.fin {v : Nat → Int} {d g m h B k : Nat} {w0 w q w' : World} {S : Nat → Prop} {T since most last : Int} {a b c x y z : Value} (n : Nw v d g m h w0 S B k T since most last zz w) (hq : Chg No w q) (e : w' = q.setCells B 0 (#[a, b, c, x, y, z] : Array Value).toList) : Nw v d g m h w0 S B k T since most last #[a, b, c, x, y, z] w' := by
  have hb := Tx.blk_puts (B := B) (t := 63) (#[a, b, c, x, y, z] : Array Value).toList 0 q _ (n.res.kept hq)
  rw [zz_put] at hb
  rw [e]
  exact (n.no hq).put (Tx.chg_puts _ 0 _ (Chg.refl _ _)) hb
theorem wl_w {l : List Dl.Wish} {now n : Int} (hat : ∀ x, x ∈ l → (0 ≤ x.1 ∧ x.1 ≤ now) ∧ (0 ≤ x.2 ∧ x.2 ≤ 1000000)) (n0 : 0 ≤ now) (a0 : 0 ≤ n) (a1 : n ≤ 1000000) : (G.kept (Dl.far now) l ++ [(now, n)]).length ≤ l.length + 1 ∧ ∀ x, x ∈ G.kept (Dl.far now) l ++ [(now, n)] → (0 ≤ x.1 ∧ x.1 ≤ now) ∧ (0 ≤ x.2 ∧ x.2 ≤ 1000000) := by
  have hlen : (G.kept (Dl.far now) l).length ≤ l.length := List.length_filter_le _ _
  refine ⟨by simp; omega, fun x hx => ?_⟩
  rcases List.mem_append.1 hx with hx | hx
  · exact hat x (List.mem_filter.1 hx).1
  · rw [List.mem_singleton.1 hx]
    exact ⟨⟨n0, Int.le_refl _⟩, a0, a1⟩
set_option maxHeartbeats 8000000 in
theorem next_any (v : Nat → Int) (hv : mayB v = true) (d k : Nat) (T now ready : Int) (w : World) (S : Nat → Prop) (x : Dec v d k T w S) (hk : k + 1 ≤ 1099511627776) (T0 : 0 ≤ T) (hT : T ≤ now) (n1 : now ≤ 1099511627776) (r0 : 0 ≤ ready) (r1 : ready ≤ 100) :
    Calls Tryz.prog 63 #[.pointer (some ⟨d, 0, none⟩), .int .i64 now, .int .i64 ready] w fun e w' => ∃ (st qu wn ex c : Int) (pn : Bool), e = .returned (.tuple #[.agg #[.int .i64 now, .int .i64 st, .int .i64 qu, .int .i64 wn, .bool pn, .int .i64 ex], .int .i64 c]) ∧ Dec v d (k + 1) now w' (K.nx S w w') ∧ Chg S w w' := by
  obtain ⟨g, m, h, since, most, last, x, ⟨s0, s1⟩, l0, l1⟩ := x
  obtain ⟨-, -, -, -, ⟨g0, -⟩, -⟩ := may_bd hv
  have x' := x.more (Nat.le_refl k) hT
  have k1 : decide (now < last) = false := decide_eq_false (by omega)
  have k2 : decide (1099511627776 < now) = false := decide_eq_false (by omega)
  have k3 : decide (ready < 0) = false := decide_eq_false (by omega)
  have k4 : decide (100 < ready) = false := decide_eq_false (by omega)
  have c23 : w.cell? ⟨d, 23, none⟩ = some (.int .i64 last) := by rw [x.blk.cell]; rfl
  have f23 := x.blk.free 23
  have hd := x.blk.lt
  have H := Lib.hid (Nw.start x' now zz)
  have HV := Lib.hid hv
  have HS := Lib.hid hT
  clear x x' hv
  go_enter Tryz.func63, Tryz.ntmps63
  go_wp2_with fail
  generalize hw1 : (w.setCell ⟨d, 23, none⟩ (Value.int IntKind.i64 now)).alloc (Obj.cells #[.int .i64 0, .int .i64 0, .int .i64 0, .int .i64 0, .bool false, .int .i64 0] 63) = w1
  have H1 : Hid (Nw v d g m h w S w.heap.size k now since most now zz w1) := by rw [← hw1]; exact H.out
  clear hw1 H c23 f23
  obtain ⟨B, hBB⟩ : ∃ B, w.heap.size = B := ⟨_, rfl⟩
  have HBB := Lib.hid hBB
  rw [hBB] at H1 hd ⊢
  clear hBB
  refine (metric_any v d g m h since most now w1 H1.out.blk H1.out.gblk).mono ?_
  rintro e w2 ⟨rfl, rfl⟩
  go_wp2_with fail
  obtain ⟨A, hmet, back⟩ := H1.out.met
  refine (Wg.means_m v m k now w1 A hmet g0 hk (by omega) n1).mono ?_
  rintro e w3 ⟨st, qu, rfl, hm3, hc3⟩
  have H3 := Lib.hid (back _ w3 (Nat.le_refl k) hm3 hc3)
  clear H1 hmet back hm3 hc3
  go_wp2_with fail
  refine wp_n7 (by kernel_rfl) H3.out.blk (fun y w => want_w v HV.out y w) rfl rfl rfl rfl (fun x w4 h4 => ?_)
  simp only [Rg.puts, List.setIfInBounds_toArray, List.set_cons_succ, List.set_cons_zero]
  obtain ⟨na, nb⟩ := x
  dsimp only
  have H4 := Lib.hid (H3.out.no h4)
  clear H3 h4
  go_wp2_with fail
  refine wp_n8 (by kernel_rfl) H4.out.blk HV.out (by omega) n1 s0 (by omega) rfl rfl rfl rfl rfl (fun x w5 h5 => ?_)
  simp only [Rg.puts, List.setIfInBounds_toArray, List.set_cons_succ, List.set_cons_zero]
  obtain ⟨q, hq, e5⟩ := h5
  have H5 : Hid (Nw v d g m h w S B k now (nextM v since most now x).1 (nextM v since most now x).2 now zz w5) := by
    rw [e5]
    exact (H4.out.no hq).modes _ _
  obtain ⟨t0, t1⟩ := nextM_bd v since most now x (by omega) s0 (by omega)
  clear e5 hq H4
  generalize (nextM v since most now x).1 = sn at *
  generalize (nextM v since most now x).2 = mn at *
  have hr5 := H5.out.row
  have e21 : w5.cell? ⟨d, 21, none⟩ = some (.int .i64 sn) := by rw [H5.out.blk.cell]; rfl
  have e22 : w5.cell? ⟨d, 22, none⟩ = some (.int .i64 mn) := by rw [H5.out.blk.cell]; rfl
  go_wp2_with fail
  refine (limit_w v HV.out na ready w5 r0 (by omega)).mono ?_
  rintro e w6 ⟨rfl, hc6⟩
  obtain ⟨a0, a1⟩ := limV_bd v HV.out na ready r0 (by omega)
  obtain ⟨b0, b1⟩ := limV_bd v HV.out nb ready r0 (by omega)
  have HLB := Lib.hid (fun w => limit_w v HV.out nb ready w r0 (by omega))
  generalize limV v na ready = N0 at *
  generalize limV v nb ready = Q0 at *
  have H6 := Lib.hid (H5.out.no hc6)
  clear hr5 e21 e22 hc6 H5
  have hr6 := H6.out.row
  have e21 : w6.cell? ⟨d, 21, none⟩ = some (.int .i64 sn) := by rw [H6.out.blk.cell]; rfl
  have e22 : w6.cell? ⟨d, 22, none⟩ = some (.int .i64 mn) := by rw [H6.out.blk.cell]; rfl
  go_wp2_with fail
  refine (is_any sn mn w6).mono ?_
  rintro e w7 ⟨rfl, hc7⟩
  have H7 := Lib.hid (H6.out.no hc7)
  clear hr6 e21 e22 hc7 H6
  have hr7 := H7.out.row
  have HMO : Hid (∀ w, Calls Tryz.prog 66 #[.agg (cf v)] w fun e w' => e = .returned (.int .i64 (mostV v)) ∧ Chg No w w') := fun w => most_w v w
  by_cases hsn : 0 ≤ sn
  · have hs0 : decide (0 ≤ sn) = true := decide_eq_true hsn
    go_wp2_with fail
    refine (HLB.out w7).mono ?_
    rintro e w8 ⟨rfl, hc8⟩
    have H8 := Lib.hid (H7.out.no hc8)
    clear hc8 hr7 H7
    go_wp2_with fail
    refine (holds_any v d g m h sn mn now _ H8.out.blk H8.out.gblk).mono ?_
    rintro e w9 ⟨rfl, rfl⟩
    go_wp2_with fail
    obtain ⟨A, ⟨l, sp, la, hdl, hll, ⟨q0, q1⟩, hla⟩, back⟩ := H8.out.del
    refine (Wd.put_any _ A h l sp la now (max N0 Q0) hdl (by omega) (fun x hx => by have := hla x hx; omega) q0 q1 n1 (by omega) (by omega)).mono ?_
    rintro e w10 ⟨rfl, hd10, hc10⟩
    obtain ⟨y1, y2⟩ := wl_w (n := (max N0 Q0)) hla (by omega) (by omega) (by omega)
    have H10 := Lib.hid (back (k + 1) now w10 (Nat.le_succ k) ⟨_, sp, now, hd10, by omega, by omega, y2⟩ hc10)
    clear y1 y2 hd10 hc10 hla hll hdl back
    go_wp2_with fail
    refine wp_n13 (by kernel_rfl) H10.out.blk H10.out.gblk (fun w' hw' => ?_) rfl rfl rfl (fun x w11 h11 => ?_)
    · obtain ⟨A, ⟨l, sp, la, hdl, hll, -, hla⟩, -⟩ := (H10.out.no hw').del
      exact (Wd.most_any w' A h l sp la now hdl (by omega) hla (by omega) n1).mono fun e w'' ⟨y, _, he, hc⟩ => ⟨y, he, hc⟩
    simp only [Rg.puts, List.setIfInBounds_toArray, List.set_cons_succ, List.set_cons_zero]
    obtain ⟨q, hq, e11⟩ := h11
    have H11 : Hid (Nw v d g m h w S B (k + 1) now sn (keep sn mn x).1 now zz w11) := by
      rw [e11]
      exact (H10.out.no hq).modes _ _
    clear e11 hq H10
    generalize (keep sn mn x).1 = km at *
    generalize (keep sn mn x).2 = kn at *
    have hS : Hid (Nw v d g m h w S B (k + 1) now sn km now zz w11.drew) ∧ rowOf w11.drew d 0 20 = some (.agg (cf v)) ∧ w11.drew.cell? ⟨d, 8, none⟩ = some (.int .i64 (v 8)) := (H11.out.no (Chg.refl No _).drew).z
    generalize hmv : mostV v = mv at *
    by_cases p1 : mv < kn
    · by_cases p2 : mv < v 8
      all_goals
        go_wp2_with fail
        go_region_held3 (fun w' => Hid (Nw v d g m h w S B (k + 1) now sn km now zz w') ∧ rowOf w' d 0 20 = some (.agg (cf v)) ∧ w'.cell? ⟨d, 8, none⟩ = some (.int .i64 (v 8))) (first | exact hS | assumption | exact Nw.z2 (by assumption) hc) (first | (go_at_call 66; refine (HMO.out _).mono ?_; rintro e w12 ⟨rfl, hc⟩))
        rename_i hHeld
        have H12 := hHeld.1
        clear hHeld hS hc H11
        go_wp2_with fail
        refine wp_n15 (by kernel_rfl) H12.out.blk H12.out.res rfl HV.out r0 (by omega) rfl rfl rfl rfl rfl rfl rfl rfl (fun x w13 h13 => ?_)
        obtain ⟨q, hq, e13⟩ := h13
        have H13 := Lib.hid (H12.out.fin hq e13)
        have r0 := H13.out.res.cell 0
        have r1 := H13.out.res.cell 1
        have r2 := H13.out.res.cell 2
        have r3 := H13.out.res.cell 3
        have r4 := H13.out.res.cell 4
        have r5 := H13.out.res.cell 5
        simp only [List.getElem?_toArray, List.getElem?_cons_zero, List.getElem?_cons_succ] at r0 r1 r2 r3 r4 r5
        clear e13 hq H12
        simp only [Rg.puts, List.setIfInBounds_toArray, List.set_cons_succ, List.set_cons_zero]
        go_wp2_with fail
        try simp only [Exit.inBlock, Exit.then]
        refine bodyPost_ret (by simp [results, Tryz.results63, go_sem, r0, r1, r2, r3, r4, r5]; rfl) rfl ?_
        obtain ⟨x1, x2⟩ := H13.out.done
        exact ⟨_, _, _, _, _, _, rfl, ⟨g, m, h, sn, km, now, x1, ⟨t0, t1⟩, by omega, by omega⟩, x2⟩
    · by_cases p2 : kn < v 8
      all_goals
        go_wp2_with fail
        go_region_held3 (fun w' => Hid (Nw v d g m h w S B (k + 1) now sn km now zz w') ∧ rowOf w' d 0 20 = some (.agg (cf v)) ∧ w'.cell? ⟨d, 8, none⟩ = some (.int .i64 (v 8))) (first | exact hS | assumption | exact Nw.z2 (by assumption) hc) (first | (go_at_call 66; refine (HMO.out _).mono ?_; rintro e w12 ⟨rfl, hc⟩))
        rename_i hHeld
        have H12 := hHeld.1
        clear hHeld hS hc H11
        go_wp2_with fail
        refine wp_n15 (by kernel_rfl) H12.out.blk H12.out.res rfl HV.out r0 (by omega) rfl rfl rfl rfl rfl rfl rfl rfl (fun x w13 h13 => ?_)
        obtain ⟨q, hq, e13⟩ := h13
        have H13 := Lib.hid (H12.out.fin hq e13)
        have r0 := H13.out.res.cell 0
        have r1 := H13.out.res.cell 1
        have r2 := H13.out.res.cell 2
        have r3 := H13.out.res.cell 3
        have r4 := H13.out.res.cell 4
        have r5 := H13.out.res.cell 5
        simp only [List.getElem?_toArray, List.getElem?_cons_zero, List.getElem?_cons_succ] at r0 r1 r2 r3 r4 r5
        clear e13 hq H12
        simp only [Rg.puts, List.setIfInBounds_toArray, List.set_cons_succ, List.set_cons_zero]
        go_wp2_with fail
        try simp only [Exit.inBlock, Exit.then]
        refine bodyPost_ret (by simp [results, Tryz.results63, go_sem, r0, r1, r2, r3, r4, r5]; rfl) rfl ?_
        obtain ⟨x1, x2⟩ := H13.out.done
        exact ⟨_, _, _, _, _, _, rfl, ⟨g, m, h, sn, km, now, x1, ⟨t0, t1⟩, by omega, by omega⟩, x2⟩
  · have hs0 : decide (0 ≤ sn) = false := decide_eq_false hsn
    go_wp2_with fail
    refine (holds_any v d g m h sn mn now _ H7.out.blk H7.out.gblk).mono ?_
    rintro e w9 ⟨rfl, rfl⟩
    go_wp2_with fail
    obtain ⟨A, ⟨l, sp, la, hdl, hll, ⟨q0, q1⟩, hla⟩, back⟩ := H7.out.del
    refine (Wd.put_any _ A h l sp la now N0 hdl (by omega) (fun x hx => by have := hla x hx; omega) q0 q1 n1 (by omega) (by omega)).mono ?_
    rintro e w10 ⟨rfl, hd10, hc10⟩
    obtain ⟨y1, y2⟩ := wl_w (n := N0) hla (by omega) (by omega) (by omega)
    have H10 := Lib.hid (back (k + 1) now w10 (Nat.le_succ k) ⟨_, sp, now, hd10, by omega, by omega, y2⟩ hc10)
    clear y1 y2 hd10 hc10 hla hll hdl back
    go_wp2_with fail
    refine wp_n13 (by kernel_rfl) H10.out.blk H10.out.gblk (fun w' hw' => ?_) rfl rfl rfl (fun x w11 h11 => ?_)
    · obtain ⟨A, ⟨l, sp, la, hdl, hll, -, hla⟩, -⟩ := (H10.out.no hw').del
      exact (Wd.most_any w' A h l sp la now hdl (by omega) hla (by omega) n1).mono fun e w'' ⟨y, _, he, hc⟩ => ⟨y, he, hc⟩
    simp only [Rg.puts, List.setIfInBounds_toArray, List.set_cons_succ, List.set_cons_zero]
    obtain ⟨q, hq, e11⟩ := h11
    have H11 : Hid (Nw v d g m h w S B (k + 1) now sn (keep sn mn x).1 now zz w11) := by
      rw [e11]
      exact (H10.out.no hq).modes _ _
    clear e11 hq H10
    generalize (keep sn mn x).1 = km at *
    generalize (keep sn mn x).2 = kn at *
    have hS : Hid (Nw v d g m h w S B (k + 1) now sn km now zz w11.drew) ∧ rowOf w11.drew d 0 20 = some (.agg (cf v)) ∧ w11.drew.cell? ⟨d, 8, none⟩ = some (.int .i64 (v 8)) := (H11.out.no (Chg.refl No _).drew).z
    generalize hmv : mostV v = mv at *
    by_cases p1 : mv < kn
    · by_cases p2 : mv < v 8
      all_goals
        go_wp2_with fail
        go_region_held3 (fun w' => Hid (Nw v d g m h w S B (k + 1) now sn km now zz w') ∧ rowOf w' d 0 20 = some (.agg (cf v)) ∧ w'.cell? ⟨d, 8, none⟩ = some (.int .i64 (v 8))) (first | exact hS | assumption | exact Nw.z2 (by assumption) hc) (first | (go_at_call 66; refine (HMO.out _).mono ?_; rintro e w12 ⟨rfl, hc⟩))
        rename_i hHeld
        have H12 := hHeld.1
        clear hHeld hS hc H11
        go_wp2_with fail
        refine wp_n15 (by kernel_rfl) H12.out.blk H12.out.res rfl HV.out r0 (by omega) rfl rfl rfl rfl rfl rfl rfl rfl (fun x w13 h13 => ?_)
        obtain ⟨q, hq, e13⟩ := h13
        have H13 := Lib.hid (H12.out.fin hq e13)
        have r0 := H13.out.res.cell 0
        have r1 := H13.out.res.cell 1
        have r2 := H13.out.res.cell 2
        have r3 := H13.out.res.cell 3
        have r4 := H13.out.res.cell 4
        have r5 := H13.out.res.cell 5
        simp only [List.getElem?_toArray, List.getElem?_cons_zero, List.getElem?_cons_succ] at r0 r1 r2 r3 r4 r5
        clear e13 hq H12
        simp only [Rg.puts, List.setIfInBounds_toArray, List.set_cons_succ, List.set_cons_zero]
        go_wp2_with fail
        try simp only [Exit.inBlock, Exit.then]
        refine bodyPost_ret (by simp [results, Tryz.results63, go_sem, r0, r1, r2, r3, r4, r5]; rfl) rfl ?_
        obtain ⟨x1, x2⟩ := H13.out.done
        exact ⟨_, _, _, _, _, _, rfl, ⟨g, m, h, sn, km, now, x1, ⟨t0, t1⟩, by omega, by omega⟩, x2⟩
    · by_cases p2 : kn < v 8
      all_goals
        go_wp2_with fail
        go_region_held3 (fun w' => Hid (Nw v d g m h w S B (k + 1) now sn km now zz w') ∧ rowOf w' d 0 20 = some (.agg (cf v)) ∧ w'.cell? ⟨d, 8, none⟩ = some (.int .i64 (v 8))) (first | exact hS | assumption | exact Nw.z2 (by assumption) hc) (first | (go_at_call 66; refine (HMO.out _).mono ?_; rintro e w12 ⟨rfl, hc⟩))
        rename_i hHeld
        have H12 := hHeld.1
        clear hHeld hS hc H11
        go_wp2_with fail
        refine wp_n15 (by kernel_rfl) H12.out.blk H12.out.res rfl HV.out r0 (by omega) rfl rfl rfl rfl rfl rfl rfl rfl (fun x w13 h13 => ?_)
        obtain ⟨q, hq, e13⟩ := h13
        have H13 := Lib.hid (H12.out.fin hq e13)
        have r0 := H13.out.res.cell 0
        have r1 := H13.out.res.cell 1
        have r2 := H13.out.res.cell 2
        have r3 := H13.out.res.cell 3
        have r4 := H13.out.res.cell 4
        have r5 := H13.out.res.cell 5
        simp only [List.getElem?_toArray, List.getElem?_cons_zero, List.getElem?_cons_succ] at r0 r1 r2 r3 r4 r5
        clear e13 hq H12
        simp only [Rg.puts, List.setIfInBounds_toArray, List.set_cons_succ, List.set_cons_zero]
        go_wp2_with fail
        try simp only [Exit.inBlock, Exit.then]
        refine bodyPost_ret (by simp [results, Tryz.results63, go_sem, r0, r1, r2, r3, r4, r5]; rfl) rfl ?_
        obtain ⟨x1, x2⟩ := H13.out.done
        exact ⟨_, _, _, _, _, _, rfl, ⟨g, m, h, sn, km, now, x1, ⟨t0, t1⟩, by omega, by omega⟩, x2⟩
end Go.Proofs.YtdgphoemjeakaaaGreatDoor.Wj
namespace Go.Proofs.YtdgphoemjeakaaaGreatDoor.Y
open Go.RowKit K P U Mg Wk
def loose : Env where
  ex := False
  rep := fun v d x => Wj.Dec v d x.nw.toNat x.dl
  ok := fun now x => (0 ≤ x.nw ∧ x.nw ≤ 2 * now) ∧ (0 ≤ x.dl ∧ x.dl ≤ now)
  mid := fun now x => (0 ≤ x.nw ∧ x.nw + 1 ≤ 2 * now) ∧ (0 ≤ x.dl ∧ x.dl ≤ now)
  good := fun _ _ _ => Wj.Dec.good
  wide := fun _ _ _ => Wj.Dec.wide
  lose := fun x now _ ⟨h1, h2⟩ => ⟨by omega, by omega⟩
  put := fun v d x now val w C hv _ n0 n1 ⟨h1, h2⟩ v0 v1 hd => by
    obtain ⟨-, -, -, -, ⟨g0, -⟩, -⟩ := may_bd hv
    refine (Wj.put_any v d x.nw.toNat x.dl (now + 1) val w C hd g0 (by omega) (by omega) (by omega)).mono fun e w' ⟨c, h3, h4, h5⟩ => ⟨c, { x with nw := x.nw + 1 }, h3, ?_, h5, ⟨by show 0 ≤ x.nw + 1 ∧ x.nw + 1 + 1 ≤ 2 * (now + 1); omega, by show 0 ≤ x.dl ∧ x.dl ≤ now + 1; omega⟩, fun h => h.elim⟩
    show Wj.Dec v d (x.nw + 1).toNat x.dl w' _
    rw [show (x.nw + 1).toNat = x.nw.toNat + 1 by omega]
    exact h4
  next := fun v d x now r w C hv _ n0 n1 ⟨h1, h2⟩ r1 hd => by
    refine (Wj.next_any v hv d x.nw.toNat x.dl now r w C hd (by omega) h2.1 h2.2 (by omega) (by omega) (by omega)).mono fun e w' ⟨st, qu, wn, ex', c, pn, h3, h4, h5⟩ => ⟨st, qu, wn, ex', c, pn, { x with nw := x.nw + 1, dl := now }, h3, ?_, h5, ⟨by show 0 ≤ x.nw + 1 ∧ x.nw + 1 ≤ 2 * now; omega, by show 0 ≤ now ∧ now ≤ now; omega⟩, fun h => h.elim⟩
    show Wj.Dec v d (x.nw + 1).toNat now w' _
    rw [show (x.nw + 1).toNat = x.nw.toNat + 1 by omega]
    exact h4
  over := fun v d x w C hd => (Wj.over_any v d x.nw.toNat x.dl w C hd).mono fun e w' ⟨b, h1, h2⟩ => ⟨b, h1, h2, fun h => h.elim⟩
  new := fun v w hv _ => (Wj.new_any v hv w).mono fun e w' ⟨d, h1, h2, h3⟩ => ⟨d, ⟨[], [], 0, [], 0, 0, 0, 0⟩, h1, h2, h3, ⟨⟨by decide, by decide⟩, ⟨by decide, by decide⟩⟩, fun h => h.elim⟩
end Go.Proofs.YtdgphoemjeakaaaGreatDoor.Y
