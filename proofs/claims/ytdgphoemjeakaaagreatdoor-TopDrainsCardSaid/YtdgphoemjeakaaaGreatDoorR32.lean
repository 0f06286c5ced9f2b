/- The whole service: told. What is known of the decider at the document's settings. -/
import Derived.Test.YtdgphoemjeakaaaGreatDoorR31
import Derived.Test.YtdgphoemjeakaaaGreatDoorR25
import Derived.Test.YtdgphoemjeakaaaGreatDoorR22
namespace Go.Proofs.YtdgphoemjeakaaaGreatDoor.Y
open Rg
open Go.RowKit K P U Mg Wk
set_option maxRecDepth 100000
theorem vdef_may : mayB vdef = true := by decide +kernel
theorem finishes_succ (li : Int) : ∀ (n : Nat) (s : V.Sys), V.finishes li (n + 1) s = (V.finish li 0 (V.finishes li n s)).2
  | 0, _ => rfl
  | n + 1, s => by
    show V.finishes li (n + 1) (V.finish li 0 s).2 = _
    rw [finishes_succ li n]
    rfl
theorem told_of {s0 s1 s2 s3 s4 : V.Sys} (e0 : V.new 20000 1 10 = s0) (e1 : V.arrives 10 30 s0 = s1) (e2 : V.ticks 20000 10 3 10 s1 = s2) (e3 : V.finishes 10 30 s2 = s3) (e4 : V.ticks 20000 10 3 200 s3 = s4) : V.ends s2.rs 2 = 30 ∧ 1 < s2.pods.length ∧ s2.ld.panic = true ∧ s4.pods.length = 0 ∧ s4.want = 0 ∧ V.ends s4.rs 3 = 30 ∧ s4.proxy = true := by
  have hT := V.told_true
  unfold V.told V.down V.up at hT
  rw [e0, e1, e2, e3, e4] at hT
  simpa only [Bool.and_eq_true, beq_iff_eq, decide_eq_true_eq] using hT
attribute [local go_sem ↓] exec_sto24 exec_sto38
attribute [local go_sem] sto24
set_option maxHeartbeats 8000000 in
theorem told_any (E : Env) (hE : E.ex) (w : World) : Calls Tryz.prog 10 #[] w fun e w' => e = .returned (.bool true) ∧ Chg No w w' := by
  have HE := Lib.hid hE
  clear hE
  go_enter Tryz.func10, Tryz.ntmps10
  go_wp2_with fail
  refine (default_any w).mono ?_
  rintro e w1 ⟨rfl, hc1⟩
  have HC1 := Lib.hid hc1
  clear hc1
  go_wp2_with fail
  refine (new_any E vdef vdef_may (fun _ => rfl) w1).mono ?_
  rintro e w2 ⟨a, s0, rfl, ha, h2, i0, n0, l0, x0⟩
  have HX : Hid a.E.ex := by rw [ha]; exact HE.out
  have H2 := Lib.hid h2
  have I0 := Lib.hid i0
  have E0 := Lib.hid (x0 HE.out)
  clear h2 i0 x0 ha HE
  go_wp2_with fail
  refine (do_arrive H2.out I0.out 30 _ ⟨by decide, by decide⟩ no_text (by omega) (by omega)).mono ?_
  rintro e w3 ⟨rfl, s1, h3, i1, n1, l1, x1⟩
  have H3 := Lib.hid h3
  have I1 := Lib.hid i1
  have E1 := Lib.hid (x1 HX.out)
  clear h3 i1 x1 H2 I0
  go_wp2_with fail
  refine (do_tick H3.out I1.out 10 _ ⟨by decide, by decide⟩ no_text (by omega) (by omega)).mono ?_
  rintro e w4 ⟨rfl, s2, h4, i2, n2, l2, x2⟩
  have H4 := Lib.hid h4
  have I2 := Lib.hid i2
  have E2 := Lib.hid (x2 HX.out)
  clear h4 i2 x2 H3 I1
  go_wp2_with fail
  refine (see_at H4.out I2.out (by omega)).mono ?_
  rintro e w5 ⟨x5, rfl, -, hc5⟩
  have c6 : Chg No w4 (w5.alloc (.cells (vs s2 x5) 38)) := hc5.alloc _
  have hAB := H4.out.base c6
  have hAO := fun s w (h : Aft a (K.nx No w1 w4) (w5.alloc (.cells (vs s2 x5) 38)) s w) => H4.out.out HC1.out c6 h
  have hB5 := Blk.new w5 (vs s2 x5) 38
  have hSB : ¬ K.nx No w1 w4 w5.heap.size := fun h => by have := nx_bd h; have := hc5.size; omega
  have H5 := Lib.hid hAB
  have HAO := Lib.hid hAO
  have B5 := Lib.hid hB5
  have HSB := Lib.hid hSB
  clear hc5 c6 hAB hAO hB5 hSB
  go_wp2_with fail
  rw [show (#[.int .i64 0, .int .i64 0, .bool false, .bool false, .slice none 0 0, .int .i64 0, .int .i64 0, .int .i64 0, .int .i64 0, .int .i64 0, .int .i64 0, .int .i64 0, .int .i64 0, .int .i64 0, .bool false] : Array Value) = zcells from rfl, sto38]
  generalize w5.alloc (.cells (vs s2 x5) 38) = w6 at *
  generalize w5.heap.size = BB at *
  generalize K.nx No w1 w4 = SS at *
  go_wp2_with fail
  obtain ⟨N, hN⟩ : ∃ N : Nat, N = 30 := ⟨_, rfl⟩
  go_loopw [4] (fun i wr => ∃ j : Nat, j ≤ N ∧ i = .int .i64 j ∧ Hid (∃ s', Aft a SS w6 s' wr ∧ Inv a s' ∧ s'.now = s2.now ∧ s'.rs.length = s2.rs.length ∧ V.finishes 10 j s2 = s')) (fun i _ => N - (intOf i).toNat)
  case atStart => exact ⟨0, Nat.zero_le _, rfl, s2, H5.out, I2.out, rfl, rfl, rfl⟩
  case round =>
    obtain ⟨j, hj, rfl, HR⟩ := hrel
    obtain ⟨sj, hr, ij, nj, lj, ej⟩ := HR.out
    have HRJ := Lib.hid hr
    have HJI := Lib.hid ij
    have HSU := Lib.hid ej
    clear ej hr ij HR
    by_cases hlt : j < 30
    · go_wp2_with fail
      refine (do_finish HRJ.out HJI.out 0 _ (by decide) no_text (by omega) (by omega)).mono ?_
      rintro e w7 ⟨c, s', rfl, h7, i7, n7, l7, x7⟩
      have H7 : Hid (∃ s', Aft a SS w6 s' w7 ∧ Inv a s' ∧ s'.now = s2.now ∧ s'.rs.length = s2.rs.length ∧ V.finishes 10 (j + 1) s2 = s') := ⟨s', h7, i7, n7.trans nj, l7.trans lj, by rw [finishes_succ, HSU.out, x7 HX.out]⟩
      clear h7 i7 n7 l7 x7
      go_wp2_with fail
      go_roundw
      case rel => exact ⟨j + 1, by omega, by go_num, H7⟩
      case measure => simp [intOf]; omega
    · obtain rfl : j = 30 := by omega
      go_wp2_with fail
      refine (do_tick HRJ.out HJI.out 200 _ ⟨by decide, by decide⟩ no_text (by omega) (by omega)).mono ?_
      rintro e w8 ⟨rfl, s4, h8, i4, n4, l4, x4⟩
      have H8 := Lib.hid h8
      have I4 := Lib.hid i4
      have HT := Lib.hid (told_of E0.out E1.out E2.out HSU.out (x4 HX.out))
      clear h8 i4 x4 HRJ HJI
      go_wp2_with fail
      refine (see_at H8.out I4.out (by omega)).mono ?_
      rintro e w9 ⟨x9, rfl, -, hc9⟩
      have H9 := Lib.hid (H8.out.no (hc9.alloc (.cells (vs s4 x9) 38)))
      have B9 := Lib.hid (Blk.new w9 (vs s4 x9) 38)
      clear hc9
      obtain ⟨t1, t2, t3, t4, t5, t6, t7⟩ := HT.out
      obtain ⟨-, -, q2, -, q4, -, q6⟩ := vs_cells (B5.out.chg H9.out.chg HSB.out)
      obtain ⟨-, r1, -, r3, r4, -, -⟩ := vs_cells B9.out
      obtain ⟨-, r10, -, -, -⟩ := vs_ends B9.out
      rw [t1] at q6
      rw [t3] at q2
      rw [t4] at r4
      rw [t5] at r1
      rw [t6] at r10
      rw [t7] at r3
      have d2 : decide ((1 : Int) < (s2.pods.length : Int)) = true := decide_eq_true (by omega)
      have HAE := Lib.hid (HAO.out _ _ H9.out)
      clear H9 B9 B5 H8 H5 HT t1 t2 t3 t4 t5 t6 t7
      go_wp2_with fail
      rw [show (#[.int .i64 0, .int .i64 0, .bool false, .bool false, .slice none 0 0, .int .i64 0, .int .i64 0, .int .i64 0, .int .i64 0, .int .i64 0, .int .i64 0, .int .i64 0, .int .i64 0, .int .i64 0, .bool false] : Array Value) = zcells from rfl, sto38]
      generalize w9.alloc (.cells (vs s4 x9) 38) = w10 at *
      generalize w9.heap.size = B2 at *
      go_wp2_with fail
      go_ret
      exact ⟨rfl, HAE.out⟩
end Go.Proofs.YtdgphoemjeakaaaGreatDoor.Y
namespace Go.Proofs.YtdgphoemjeakaaaGreatDoor.Y
open Go.RowKit K P U Mg Wk
theorem tell_ok : P.Ok 20000 1 10 3 := ⟨.inr ⟨by decide, by decide⟩, ⟨by decide, by decide⟩, ⟨by decide, by decide⟩, ⟨by decide, by decide⟩⟩
abbrev DecK (now : Int) (x : Dd) : Prop := V.DecOk x.b0 x.b1 x.nw x.wl x.hl x.si x.mo x.dl now
theorem DecK.later {now : Int} {x : Dd} (h : DecK now x) : DecK (now + 1) x := by
  obtain ⟨d1, d2, d3, d4, d5, d6, d7, d8⟩ := h
  exact ⟨d1, d2, ⟨d3.1, by omega⟩, (fun y hy => by have := d4 y hy; exact ⟨⟨this.1.1, by omega⟩, this.2⟩), ⟨d5.1, by omega⟩, ⟨d6.1, by omega⟩, d7, ⟨d8.1, by omega⟩⟩
def exact_ : Env where
  ex := True
  rep := fun _ d x => De.Decider 20000 1 10 3 d x.b0 x.b1 x.nw x.wl x.hl x.si x.mo x.dl
  ok := DecK
  mid := fun now x => DecK now x ∧ x.hl < now
  good := fun _ _ _ => De.Decider.good
  wide := fun _ _ _ => De.Decider.wide
  lose := fun x now _ h => ⟨DecK.later h, by have := h.hlB.2; omega⟩
  put := fun v d x now val w C _ _ n0 n1 h v0 v1 hd => by
    refine (De.put_any 20000 1 10 3 d x.b0 x.b1 x.nw x.wl x.hl x.si x.mo x.dl (now + 1) val w C hd (h.w0.fine (by decide) (by decide)) (h.w1.fine (by decide) (by decide)) h.nwB.1 (by have := h.nwB.2; omega) (by omega) v0 v1).mono fun e w' ⟨h1, h2, h3⟩ => ⟨0, { x with b0 := Me.putB 60 (now + 1) val x.b0, b1 := Me.putB 6 (now + 1) val x.b1, nw := now + 1 }, h1, h2, h3, ⟨?_, by have := h.hlB.2; show x.hl < now + 1; omega⟩, fun _ => rfl⟩
    have h4 := DecK.later h
    have h5 := h.nwB
    have w0 := h.w0.put (t := now + 1) (by decide) (by omega) (by omega) v0 v1
    have w1 := h.w1.put (t := now + 1) (by decide) (by omega) (by omega) v0 v1
    exact ⟨w0, w1, ⟨by show -1 ≤ now + 1; omega, Int.le_refl _⟩, h4.wlB, h4.hlB, h4.siB, h4.moB, h4.dlB⟩
  next := fun v d x now r w C _ _ n0 n1 ⟨h, hh⟩ r1 hd => by
    have hok := (V.nextD_ok 20000 10 h hh n0 (r := (r : Int)) (by omega) (by omega)).1
    refine (De.next_any may_said 20000 1 10 3 tell_ok d x.b0 x.b1 x.nw x.wl x.hl x.si x.mo x.dl now r w C hd (h.w0.fine (by decide) (by decide)) (h.w1.fine (by decide) (by decide)) n0 (by omega) h.nwB.2 h.dlB.2 (by omega) (by omega) h.siB.1 h.siB.2 (by have := h.hlB.1; omega) h.hlB.2 (by have := h.hlB; omega) h.wlB).mono ?_
    have e0 : De.nextD 20000 10 x.b0 x.b1 x.wl x.si x.mo now r = nxD x now r := by
      unfold nxD
      rfl
    rw [e0] at hok ⊢
    generalize nxD x now r = D at *
    exact fun e w' ⟨h1, h2, h3⟩ => ⟨_, _, _, _, _, _, { x with wl := D.l, hl := now, si := D.since, mo := D.most, dl := now }, h1, h2, h3, hok, fun _ => ⟨rfl, rfl, rfl, rfl, rfl, rfl⟩⟩
  over := fun v d x w C hd => (De.over_any 20000 1 10 3 d x.b0 x.b1 x.nw x.wl x.hl x.si x.mo x.dl w C hd).mono fun e w' ⟨h1, h2⟩ => ⟨false, h1, h2, fun _ => rfl⟩
  new := fun v w _ hv => by
    rw [hv trivial]
    refine (De.new_any may_said 20000 1 10 3 tell_ok w).mono fun e w' ⟨d, h1, h2, h3⟩ => ⟨d, ⟨[], [], -1, [], 0, -1, 0, 0⟩, h1, h2, h3, ?_, fun _ => rfl⟩
    exact ⟨⟨List.Pairwise.nil, fun x hx => nomatch hx⟩, ⟨List.Pairwise.nil, fun x hx => nomatch hx⟩, ⟨by decide, by decide⟩, (fun x hx => nomatch hx), ⟨by decide, by decide⟩, ⟨by decide, by decide⟩, ⟨by decide, by decide⟩, ⟨by decide, by decide⟩⟩
theorem told_true (w : World) : Calls Tryz.prog 10 #[] w fun e w' => e = .returned (.bool true) ∧ Chg No w w' := told_any exact_ trivial w
end Go.Proofs.YtdgphoemjeakaaaGreatDoor.Y
