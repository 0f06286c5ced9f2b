/- Two windows of whatever numbers: New, Change. Two windows of whatever numbers: Change. A decider of whatever numbers: what it owns; Put, Over. A decider of whatever numbers: New. A decider of whatever numbers: the regions of Change. -/
import Derived.Test.YtdgphoemjeakaaaGreatDoorR16
import Derived.Test.YtdgphoemjeakaaaGreatDoorR34
import Derived.Test.YtdgphoemjeakaaaGreatDoorR04
import Derived.Test.YtdgphoemjeakaaaGreatDoorR09
namespace Go.Proofs.YtdgphoemjeakaaaGreatDoor.Wg
open Me (mw bld)
open Go.RowKit K P U Mg Wk
open Wr (Ring rcw)
set_option maxRecDepth 100000
theorem keepA {w : World} {B : Nat} {v : Nat → Int} (o : Obj) (h : Hid (Blk w B (cf v) 24) ∧ rowOf w B 0 20 = some (.agg (cf v)) ∧ w.cell? ⟨B, 2, none⟩ = some (.int .i64 (v 2)) ∧ w.cell? ⟨B, 3, none⟩ = some (.int .i64 (v 3)) ∧ w.cell? ⟨B, 4, none⟩ = some (.int .i64 (v 4))) :
    Hid (Blk (w.alloc o) B (cf v) 24) ∧ rowOf (w.alloc o) B 0 20 = some (.agg (cf v)) ∧ (w.alloc o).cell? ⟨B, 2, none⟩ = some (.int .i64 (v 2)) ∧ (w.alloc o).cell? ⟨B, 3, none⟩ = some (.int .i64 (v 3)) ∧ (w.alloc o).cell? ⟨B, 4, none⟩ = some (.int .i64 (v 4)) := by
  have hb : Blk (w.alloc o) B (cf v) 24 := h.1.out.alloc o
  have hr := rowOf_blk hb
  rw [cf_size] at hr
  exact ⟨hb, hr, cell_cf hb 2, cell_cf hb 3, cell_cf hb 4⟩
abbrev rc (window gr n : Int) : Array Value := rcw (.slice none 0 0) window gr n (-1) false
theorem new_rep (v : Nat → Int) (n0 n1 : Int) (w : World) : Met v (w.heap.size + 2) 0 (((w.alloc (.cells (rc (v 2) (v 4) n0) 180)).alloc (.cells (rc (v 3) (v 4) n1) 180)).alloc (.cells (mcv v w.heap.size (w.heap.size + 1) false) 132)) (fun k => w.heap.size ≤ k ∧ k < w.heap.size + 3) := by
  have s1 : (w.alloc (.cells (rc (v 2) (v 4) n0) 180)).heap.size = w.heap.size + 1 := by simp
  have s2 : ((w.alloc (.cells (rc (v 2) (v 4) n0) 180)).alloc (.cells (rc (v 3) (v 4) n1) 180)).heap.size = w.heap.size + 2 := by simp
  have s3 : (((w.alloc (.cells (rc (v 2) (v 4) n0) 180)).alloc (.cells (rc (v 3) (v 4) n1) 180)).alloc (.cells (mcv v w.heap.size (w.heap.size + 1) false) 132)).heap.size = w.heap.size + 3 := by simp
  have h1 := Wr.new_ring w (v 2) (v 4) n0
  have h2 := Wr.new_ring (w.alloc (.cells (rc (v 2) (v 4) n0) 180)) (v 3) (v 4) n1
  rw [s1] at h2
  have h3 := Blk.new ((w.alloc (.cells (rc (v 2) (v 4) n0) 180)).alloc (.cells (rc (v 3) (v 4) n1) 180)) (mcv v w.heap.size (w.heap.size + 1) false) 132
  rw [s2] at h3
  refine ⟨w.heap.size, w.heap.size + 1, false, fun k hk => by rw [s3]; exact hk.2, fun k => k = w.heap.size + 2, fun k => k = w.heap.size ∨ k = w.heap.size + 1, fun k hk => by omega, fun k hk => by omega, fun k h h' => by omega, ⟨fun k hk => by omega, rfl, h3⟩, fun k hk => by omega, fun k => k = w.heap.size, fun k => k = w.heap.size + 1, fun k hk => .inl hk, fun k hk => .inr hk, fun k h h' => by omega, ?_, ?_⟩
  · exact Wr.Ring.good.kept h1 (((Chg.refl No _).alloc _).alloc _)
  · exact Wr.Ring.good.kept h2 ((Chg.refl No _).alloc _)
set_option maxHeartbeats 1000000 in
theorem new_m (v : Nat → Int) (hv : mayB v = true) (w : World) : Calls Tryz.prog 40 #[.agg (cf v)] w fun e w' => ∃ m, e = .returned (.pointer (some ⟨m, 0, none⟩)) ∧ Met v m 0 w' (fun k => w.heap.size ≤ k ∧ k < w'.heap.size) ∧ Chg No w w' := by
  have HM := Lib.hid (may_t v hv)
  obtain ⟨-, -, ⟨b0, b1⟩, ⟨b2, b3⟩, ⟨b4, b5⟩, -⟩ := may_bd hv
  clear hv
  go_enter Tryz.func40, Tryz.ntmps40
  go_wp2_with fail
  have hB : Blk (w.alloc (.cells (cf v) 24)) w.heap.size (cf v) 24 := Blk.new _ _ _
  have HC : Hid (Chg No w (w.alloc (.cells (cf v) 24))) := (Chg.refl No w).alloc _
  generalize w.alloc (.cells (cf v) 24) = w1 at *
  generalize w.heap.size = B at *
  have hr := rowOf_blk hB
  rw [cf_size] at hr
  first | (refine (HM.out _).mono ?_; rintro e w2 ⟨rfl, hc⟩; go_wp2_with fail) | (go_wp2_with (first | (go_at_call 16; refine (HM.out _).mono ?_; rintro e w2 ⟨rfl, hc⟩)))
  have hB2 := hB.kept hc
  have hr2 := rowOf_blk hB2
  rw [cf_size] at hr2
  have HC2 := Lib.hid (HC.out.trans hc)
  clear hB hr hc HC HM
  have hS : Hid (Blk w2.drew B (cf v) 24) ∧ rowOf w2.drew B 0 20 = some (.agg (cf v)) ∧ w2.drew.cell? ⟨B, 2, none⟩ = some (.int .i64 (v 2)) ∧ w2.drew.cell? ⟨B, 3, none⟩ = some (.int .i64 (v 3)) ∧ w2.drew.cell? ⟨B, 4, none⟩ = some (.int .i64 (v 4)) := ⟨hB2, hr2, cell_cf hB2 2, cell_cf hB2 3, cell_cf hB2 4⟩
  go_region_held3 (fun w' => Hid (Blk w' B (cf v) 24) ∧ rowOf w' B 0 20 = some (.agg (cf v)) ∧ w'.cell? ⟨B, 2, none⟩ = some (.int .i64 (v 2)) ∧ w'.cell? ⟨B, 3, none⟩ = some (.int .i64 (v 3)) ∧ w'.cell? ⟨B, 4, none⟩ = some (.int .i64 (v 4))) (first | exact hS | assumption | exact keepA _ (by assumption)) (first | (go_at_call 73; refine (Wr.new_w _ _ _ (by omega) (by omega) (by omega) (by omega)).mono ?_; rintro e w' ⟨n, rfl, rfl⟩))
  have hsz := HC2.out.size
  go_wp2
  go_ret
  refine ⟨w2.heap.size + 2, rfl, Met.wide.mono (Met.good.kept (new_rep v _ _ w2) ((Chg.refl No _).drew)) (fun k hk => ⟨by omega, ?_⟩) (fun k hk => hk.2), ((HC2.out.alloc _).alloc _).alloc _ |>.drew⟩
  rw [show (World.heap (World.drew _)) = World.heap _ from rfl]
  simp
  omega
noncomputable def ld132 (a : Value) (w : World) : Result Next := (do pure (.value (← Instr.loadAt 132 a)) : Sem Next).run Tryz.prog w
noncomputable def st132 (a x : Value) (w : World) : Result Next := (do Instr.storeAt 132 a x; pure .skip : Sem Next).run Tryz.prog w
theorem mcv_size (v : Nat → Int) (r0 r1 : Nat) (ov : Bool) : (mcv v r0 r1 ov).size = 23 := rfl
theorem ld132_is {w : World} {B r0 r1 : Nat} {v : Nat → Int} {ov : Bool} (h : Blk w B (mcv v r0 r1 ov) 132) : ld132 (.pointer (some ⟨B, 0, none⟩)) w = .ok (.value (.agg (mcv v r0 r1 ov))) w := by
  have hc : w.rangeAt B 0 (mcv v r0 r1 ov).toList := fun j u hu => by
    rw [Nat.zero_add, h.cell, ← Array.getElem?_toList]
    exact hu
  have := run_loadAt_mid (P := Tryz.prog) w B 0 132 _ _ hc Tryz.underlying132 rfl (by kernel_rfl)
  unfold ld132
  rw [Sem.run_bind, this]
  rfl
theorem mcv_one (v : Nat → Int) (r0 r1 : Nat) (ov : Bool) : (mcv v r0 r1 ov).all (·.oneCell') = true := by kernel_rfl
theorem mcv_puts (v v' : Nat → Int) (r0 r1 r0' r1' : Nat) (ov ov' : Bool) : Tx.aput (mcv v r0 r1 ov) 0 (mcv v' r0' r1' ov').toList = mcv v' r0' r1' ov' := by kernel_rfl
theorem mcv_some (v : Nat → Int) (r0 r1 : Nat) (ov : Bool) : ∀ j, j < 23 → ((mcv v r0 r1 ov)[j]?).isSome = true := by
  intro j hj
  rw [Array.getElem?_eq_getElem (by rw [mcv_size]; exact hj)]
  rfl
theorem st132_is {w : World} {B r0 r1 r0' r1' : Nat} {v : Nat → Int} {ov : Bool} (hb : Blk w B (mcv v r0 r1 ov) 132) (v' : Nat → Int) (ov' : Bool) : ∃ w', st132 (.pointer (some ⟨B, 0, none⟩)) (.agg (mcv v' r0' r1' ov')) w = .ok .skip w' ∧ Blk w' B (mcv v' r0' r1' ov') 132 ∧ Chg (fun k => k = B) w w' := by
  refine ⟨w.setCells B 0 (mcv v' r0' r1' ov').toList, ?_, ?_, Tx.chg_puts _ _ _ (Chg.refl _ _)⟩
  · have ht : w.there B 0 (mcv v' r0' r1' ov').size := fun j hj => by
      rw [Nat.zero_add, hb.cell, hb.free]
      exact ⟨mcv_some v r0 r1 ov j hj, rfl⟩
    simp only [st132, Sem.run_bind, run_storeAt_mid (P := Tryz.prog) w B 0 132 (mcv v' r0' r1' ov') ht (by kernel_rfl) (mcv_one v' r0' r1' ov')]
    rfl
  · have := Tx.blk_puts (mcv v' r0' r1' ov').toList 0 w (mcv v r0 r1 ov) hb
    rwa [mcv_puts] at this
end Go.Proofs.YtdgphoemjeakaaaGreatDoor.Wg
namespace Go.Proofs.YtdgphoemjeakaaaGreatDoor.Wg
open Me (mw bld)
open Go.RowKit K P U Mg Wk
open Wr (Ring rcw)
set_option maxRecDepth 100000
@[local go_sem ↓] theorem exec_l132 (ρ : Operand → Value) (dst : Option Tmp) (x : Operand) (ty : TypeId) (pos : String) (after : Array Edge) (gd : Option (Nat × Bool)) (w : World) : (execOp ρ { dst := dst, op := .load 132 x, type := ty, pos := pos, after := after, guard := gd }).run Tryz.prog w = ld132 (ρ x) w := rfl
@[local go_sem ↓] theorem exec_s132 (ρ : Operand → Value) (dst : Option Tmp) (a x : Operand) (ty : TypeId) (pos : String) (after : Array Edge) (gd : Option (Nat × Bool)) (w : World) : (execOp ρ { dst := dst, op := .store 132 a x, type := ty, pos := pos, after := after, guard := gd }).run Tryz.prog w = st132 (ρ a) (ρ x) w := rfl
@[local go_sem ↓] theorem exec_s24 (ρ : Operand → Value) (dst : Option Tmp) (a x : Operand) (ty : TypeId) (pos : String) (after : Array Edge) (gd : Option (Nat × Bool)) (w : World) : (execOp ρ { dst := dst, op := .store 24 a x, type := ty, pos := pos, after := after, guard := gd }).run Tryz.prog w = Tx.st24 (ρ a) (ρ x) w := Tx.exec_st24 ..
section
variable {v v' : Nat → Int} {m r0 r1 k0 k1 k : Nat} {ov : Bool} {w w' : World} {S : Nat → Prop}
theorem M2.turn (h : M2 v m r0 r1 ov k0 k1 w S) (c : Chg (fun k => k = m) w w') (hb : Blk w' m (mcv v' r0 r1 ov) 132) (h4 : v' 4 = v 4) : M2 v' m r0 r1 ov k0 k1 w' (K.nx S w w') ∧ Chg S w w' := by
  obtain ⟨A, h1, h2, back⟩ := Two.left (Two.good Wr.Ring.good Wr.Ring.good) h
  have cA : Chg A w w' := c.mono fun k _ hk => by rw [hk]; exact h1.2.1
  have := back (One m (mcv v' r0 r1 ov) 132) w' ⟨fun k hk => hk.2, ⟨.inl h1.2.1, hb.lt⟩, hb⟩ cA
  unfold M2
  rw [h4]
  exact this
theorem M2.renew {m2 r0' r1' : Nat} {ov' : Bool} {R : Nat → Prop} {ov2 : Bool} (hm : S m) (h : M2 v' m2 r0' r1' ov2 0 0 w R) (hR : ∀ k, R k → ¬ S k) (c : Chg (fun k => k = m) w w') (hbm : Blk w' m (mcv v' r0' r1' ov') 132) : Met v' m k w' (fun g => (S g ∨ R g) ∧ g < w'.heap.size) := by
  obtain ⟨C, hr, hC, -⟩ := Two.right (One.good _ _ _) h
  have hr' := (Two.good Wr.Ring.good Wr.Ring.good).chg hr c fun g h1 h2 => hR g (hC g h1) (h2 ▸ hm)
  have hcb := (Two.good Wr.Ring.good Wr.Ring.good).bd hr'
  obtain ⟨hz, A, B, hA, hB, hAB, q0, q1⟩ := hr'
  exact ⟨r0', r1', ov', fun g hg => hg.2, fun g => g = m, C, fun g hg => by rw [hg]; exact ⟨.inl hm, hbm.lt⟩, fun g hg => ⟨.inr (hC g hg), hcb g hg⟩, fun g h1 h2 => hR g (hC g h2) (h1 ▸ hm), ⟨fun g hg => by rw [hg]; exact hbm.lt, rfl, hbm⟩, hz, A, B, hA, hB, hAB, q0.more (Nat.zero_le _), q1.more (Nat.zero_le _)⟩
end
theorem mcv_24 (v v' : Nat → Int) (r0 r1 : Nat) (ov : Bool) : Tx.aput (mcv v r0 r1 ov) 0 (cf v').toList = mcv v' r0 r1 ov := by kernel_rfl
theorem st24_in {w : World} {B r0 r1 : Nat} {v : Nat → Int} {ov : Bool} (hb : Blk w B (mcv v r0 r1 ov) 132) (v' : Nat → Int) : ∃ w', Tx.st24 (.pointer (some ⟨B, 0, none⟩)) (.agg (cf v')) w = .ok .skip w' ∧ Blk w' B (mcv v' r0 r1 ov) 132 ∧ Chg (fun k => k = B) w w' := by
  refine ⟨w.setCells B 0 (cf v').toList, ?_, ?_, Tx.chg_puts _ _ _ (Chg.refl _ _)⟩
  · have ht : w.there B 0 (cf v').size := fun j hj => by
      rw [Nat.zero_add, hb.cell, hb.free]
      exact ⟨mcv_some v r0 r1 ov j (by have : j < 20 := hj; omega), rfl⟩
    simp only [Tx.st24, Sem.run_bind, run_storeAt_mid (P := Tryz.prog) w B 0 24 (cf v') ht (by kernel_rfl) (Tx.cf_one v')]
    rfl
  · have := Tx.blk_puts (cf v').toList 0 w (mcv v r0 r1 ov) hb
    rwa [mcv_24] at this
theorem mcv_ov (v : Nat → Int) (r0 r1 : Nat) (ov x : Bool) : (mcv v r0 r1 ov).setIfInBounds 22 (.bool x) = mcv v r0 r1 x := rfl
set_option maxHeartbeats 1000000 in
theorem of_0e (v : Nat → Int) (m r0 r1 : Nat) (ov : Bool) (w : World) (h : Blk w m (mcv v r0 r1 ov) 132) : Calls Tryz.prog 105 #[.pointer (some ⟨m, 0, none⟩), .int .i64 0] w fun e w' => e = .returned (.pointer (some ⟨r0, 0, none⟩)) ∧ w = w' := by
  have c := Blk.cell h 20
  rw [mcv_20] at c
  clear h
  go_enter Tryz.func105, Tryz.ntmps105
  go_wp2
  go_ret
  exact ⟨rfl, rfl⟩
set_option maxHeartbeats 1000000 in
theorem of_1e (v : Nat → Int) (m r0 r1 : Nat) (ov : Bool) (w : World) (h : Blk w m (mcv v r0 r1 ov) 132) : Calls Tryz.prog 105 #[.pointer (some ⟨m, 0, none⟩), .int .i64 1] w fun e w' => e = .returned (.pointer (some ⟨r1, 0, none⟩)) ∧ w = w' := by
  have c := Blk.cell h 21
  rw [mcv_21] at c
  clear h
  go_enter Tryz.func105, Tryz.ntmps105
  go_wp2
  go_ret
  exact ⟨rfl, rfl⟩
set_option maxHeartbeats 4000000 in
theorem change_m (v v' : Nat → Int) (m k : Nat) (w : World) (S : Nat → Prop) (h : Met v m k w S) (hv : mayB v' = true) (g0 : 1 ≤ v 4) (hk : k + 1 ≤ 1099511627776) :
    Calls Tryz.prog 87 #[.pointer (some ⟨m, 0, none⟩), .agg (cf v')] w fun e w' => ∃ c : Int, e = .returned (.int .i64 c) ∧ Met v' m k w' (K.nx S w w') ∧ Chg S w w' := by
  obtain ⟨r0, r1, ov, h⟩ := h
  have HV := Lib.hid hv
  have H0 := Lib.hid h
  have H1 := Lib.hid (M2.good.kept h ((Chg.refl No w).alloc (.cells (cf v') 24)))
  have C1 : Hid (Chg S w (w.alloc (.cells (cf v') 24))) := (Chg.refl S w).alloc _
  have HB : Hid (Blk (w.alloc (.cells (cf v') 24)) w.heap.size (cf v') 24) := Blk.new _ _ _
  have HM : Hid (m < w.heap.size) := h.blk.lt
  have HNS : Hid (¬ S w.heap.size) := fun hS => by have := h.1 _ hS; omega
  obtain ⟨x, hx⟩ : ∃ x, (v' 4 != v 4) = x := ⟨_, rfl⟩
  clear h hv
  go_enter Tryz.func87, Tryz.ntmps87
  go_wp2_with fail
  refine (may_t v' HV.out _).mono ?_
  rintro e w2 ⟨rfl, hc⟩
  have H2 := Lib.hid (M2.good.kept H1.out hc)
  have C2 := Lib.hid (C1.out.trans hc.of_no)
  have HB2 := Lib.hid (HB.out.kept hc)
  have b4 : w2.cell? ⟨w.heap.size, 4, none⟩ = some (.int .i64 (v' 4)) := Blk.cell HB2.out 4
  have m4 : w2.cell? ⟨m, 4, none⟩ = some (.int .i64 (v 4)) := Blk.cell H2.out.blk 4
  clear hc H1 C1 HB
  go_wp2_with fail
  go_quiet (fail)
  have H3 := Lib.hid (M2.good.kept H2.out ((Chg.refl No w2).drewN nq))
  have C3 := Lib.hid (C2.out.drewN nq)
  have HB3 := Lib.hid (HB2.out.drewN nq)
  clear b4 m4 H2 C2 HB2
  generalize w2.drewN nq = w3 at *
  cases x
  · have h4 : v' 4 = v 4 := by simpa using hx
    obtain ⟨A, hr, hAS, back⟩ := (M2.good.kept H3.out ((Chg.refl No w3).drew)).ring0
    have HA := Lib.hid (And.intro hr back)
    have b2 : w3.drew.cell? ⟨w.heap.size, 2, none⟩ = some (.int .i64 (v' 2)) := Blk.cell HB3.out 2
    have HMd : Hid (Blk w3.drew m (mcv v r0 r1 ov) 132) := H3.out.blk
    have HNA : Hid (¬ A w.heap.size) := fun h => HNS.out (hAS _ h)
    have HWL : Hid (w.heap.size < w3.heap.size) := HB3.out.lt
    clear hr back hAS
    go_wp2_with fail
    go_region_with (first | (go_at_call 105; refine (of_0e v m r0 r1 ov _ HMd.out).mono ?_; rintro e w' ⟨rfl, rfl⟩) | (go_at_call 128; refine (Wr.resize_w w3.drew A r0 k (v 4) (v' 2) HA.out.1 g0 hk).mono ?_; rintro e w5 ⟨c, rfl, hr5, hc5⟩))
    all_goals
      obtain ⟨h5, hc5'⟩ := HA.out.2 k _ (Wr.Ring.wide.nx' Wr.Ring.good hr5) hc5
      have HB5 : Hid (Blk w5 w.heap.size (cf v') 24) := Blk.chg (w := w3.drew) HB3.out hc5 HNA.out
      have HL5 : Hid (w3.heap.size ≤ w5.heap.size) := hc5.size
      have C5 : Hid (Chg S w w5) := C3.out.drew.trans hc5'
      have HN5 : Hid (¬ K.nx S w3.drew w5 w.heap.size) := fun h => h.1.elim HNS.out (fun h => absurd HWL.out (Nat.not_lt_of_le h))
      have HS5 : Hid (w3.drew.heap.size = w3.heap.size) := rfl
      obtain ⟨A1, hr1, hAS1, back1⟩ := (M2.good.kept h5 ((Chg.refl No w5).drew)).ring1
      have HA1 := Lib.hid (And.intro hr1 back1)
      have HM5 : Hid (Blk w5.drew m (mcv v r0 r1 ov) 132) := h5.blk
      have HNA1 : Hid (¬ A1 w.heap.size) := fun h => HN5.out (hAS1 _ h)
      have b3 : w5.drew.cell? ⟨w.heap.size, 3, none⟩ = some (.int .i64 (v' 3)) := Blk.cell HB5.out 3
      clear hr1 back1 hAS1 h5 hr5 hc5 hc5' b2
      go_wp2_with fail
      go_region_with (first | (go_at_call 105; refine (of_1e v m r0 r1 ov _ HM5.out).mono ?_; rintro e w' ⟨rfl, rfl⟩) | (go_at_call 128; refine (Wr.resize_w w5.drew A1 r1 k (v 4) (v' 3) HA1.out.1 g0 hk).mono ?_; rintro e w7 ⟨c, rfl, hr7, hc7⟩))
      all_goals
        obtain ⟨h7, hc7'⟩ := HA1.out.2 k _ (Wr.Ring.wide.nx' Wr.Ring.good hr7) hc7
        have hB7 : Blk w7 w.heap.size (cf v') 24 := Blk.chg (w := w5.drew) HB5.out hc7 HNA1.out
        have hr7' := rowOf_blk hB7
        rw [cf_size] at hr7'
        obtain ⟨w8, e8, hb8, hc8⟩ := st24_in h7.blk v'
        obtain ⟨h8, hc8'⟩ := h7.turn hc8 hb8 h4
        have H8 := Lib.hid h8
        have HC7 := Lib.hid hc7'
        have HC8 := Lib.hid hc8'
        clear hr7 hc7 hc7' h7 hB7 hb8 hc8 h8 hc8'
        go_wp2_with fail
        go_ret
        have l3 := HWL.out
        have l5 : w3.heap.size ≤ w5.heap.size := HL5.out
        have l7 : w5.heap.size ≤ w7.heap.size := HC7.out.size
        have c7 := C5.out.drew.step HC7.out fun g hg hs => hs.1.resolve_right (by have h : w3.drew.heap.size = w3.heap.size := rfl; omega)
        have c8 := c7.step HC8.out fun g hg hs => (hs.1.resolve_right (by have h : w5.drew.heap.size = w5.heap.size := rfl; omega)).1.resolve_right (by have h : w3.drew.heap.size = w3.heap.size := rfl; omega)
        have hw : Met v' m k w8 (K.nx S w w8) := ⟨r0, r1, ov, M2.wide.mono H8.out (fun g hg => ⟨?_, hg.2⟩) (fun g hg => hg.2)⟩
        · first | exact ⟨_, rfl, hw, c8⟩ | exact ⟨⟨_, rfl⟩, hw, c8⟩
        · have e3 : w3.drew.heap.size = w3.heap.size := rfl
          have e5 : w5.drew.heap.size = w5.heap.size := rfl
          rcases hg.1 with h | h
          · rcases h.1 with h | h
            · rcases h.1 with h | h
              · exact .inl h
              · exact .inr (by omega)
            · exact .inr (by omega)
          · exact .inr (by omega)
  · have hr3 := rowOf_blk HB3.out
    rw [cf_size] at hr3
    go_wp2_with fail
    refine (over_m v m k w3 _ ⟨r0, r1, ov, H3.out⟩).mono ?_
    rintro e w4 ⟨b, rfl, hc⟩
    have hr4 := rowOf_blk (HB3.out.kept hc)
    rw [cf_size] at hr4
    have H4 := Lib.hid (M2.good.kept H3.out hc)
    have C4 := Lib.hid (C3.out.trans hc.of_no)
    clear hc hr3 H3 C3
    go_wp2_with fail
    refine (new_m v' HV.out w4).mono ?_
    rintro e w5 ⟨m2, rfl, ⟨r0', r1', ov2, h5⟩, hc⟩
    have e5 := ld132_is h5.blk
    have hb5 := H4.out.blk.kept hc
    obtain ⟨w6, e6, hb6, hc6⟩ := st132_is (r0' := r0') (r1' := r1') hb5 v' ov2
    have hb7 := hb6.set 22 (.bool b)
    rw [mcv_ov] at hb7
    have hc7 := hc6.set (a := ⟨m, 22, none⟩) (fun _ => rfl) (.bool b)
    have c22 : w6.cell? ⟨m, 22, none⟩ = some (.bool ov2) := Blk.cell hb6 22
    have f22 := Blk.free hb6 22
    have HR := Lib.hid (M2.renew (k := k) (S := S) H4.out.own h5 (fun g h1 h2 => by have := H4.out.1 g h2; omega) hc7 hb7)
    have HC : Hid (Chg S w (w6.setCell ⟨m, 22, none⟩ (.bool b))) := (C4.out.trans hc.of_no).trans (hc7.mono fun g _ hg => by rw [hg]; exact H0.out.own)
    have HL : Hid (w.heap.size ≤ w4.heap.size) := C4.out.size
    clear h5 hb5 hb6 hc6 hb7 hc7 hc hr4 H4 C4
    go_wp2_with fail
    go_ret
    have hl := HL.out
    first | exact ⟨_, rfl, Met.wide.mono HR.out (fun g hg => ⟨hg.1.imp_right (fun h => Nat.le_trans hl h.1), hg.2⟩) (fun g hg => hg.2), HC.out⟩ | exact ⟨⟨_, rfl⟩, Met.wide.mono HR.out (fun g hg => ⟨hg.1.imp_right (fun h => Nat.le_trans hl h.1), hg.2⟩) (fun g hg => hg.2), HC.out⟩
end Go.Proofs.YtdgphoemjeakaaaGreatDoor.Wg
namespace Go.Proofs.YtdgphoemjeakaaaGreatDoor.Wj
open Me (mw bld)
open De (gc)
open Go.RowKit K P U Mg Wk
def Del (h k : Nat) (T : Int) : Rep := fun w S => ∃ (l : List Dl.Wish) (sp last : Int), Wd.Delay w S h l sp last ∧ l.length ≤ k ∧ (0 ≤ last ∧ last ≤ T) ∧ ∀ x, x ∈ l → (0 ≤ x.1 ∧ x.1 ≤ T) ∧ (0 ≤ x.2 ∧ x.2 ≤ 1000000)
theorem Del.good {h k : Nat} {T : Int} : U.Good (Del h k T) := ⟨fun ⟨l, sp, la, x, y⟩ c hd => ⟨l, sp, la, Wd.Delay.chg x c hd, y⟩, fun ⟨_, _, _, ⟨_, x⟩, _⟩ => x.bd⟩
theorem Del.wide {h k : Nat} {T : Int} : U.Wide (Del h k T) := ⟨fun ⟨l, sp, la, x, y⟩ hs hb => ⟨l, sp, la, Wd.Delay.mono x (fun k _ h => hs k h) hb, y⟩⟩
theorem Del.more {h k k' : Nat} {T T' : Int} {w : World} {S : Nat → Prop} (x : Del h k T w S) (hk : k ≤ k') (hT : T ≤ T') : Del h k' T' w S := by
  obtain ⟨l, sp, la, y, a, b, c⟩ := x
  exact ⟨l, sp, la, y, by omega, by omega, fun x hx => by have := c x hx; omega⟩
theorem met_more {v : Nat → Int} {m k k' : Nat} {w : World} {S : Nat → Prop} (x : Wg.Met v m k w S) (hk : k ≤ k') : Wg.Met v m k' w S := by
  obtain ⟨r0, r1, ov, hz, A, B, hA, hB, hAB, o, hz2, A2, B2, hA2, hB2, hAB2, q0, q1⟩ := x
  exact ⟨r0, r1, ov, hz, A, B, hA, hB, hAB, o, hz2, A2, B2, hA2, hB2, hAB2, q0.more hk, q1.more hk⟩
def dcv (v : Nat → Int) (g : Nat) (since most last : Int) : Array Value := mw (cf v) [.slice (some ⟨g, 0, none⟩) 2 2, .int .i64 since, .int .i64 most, .int .i64 last]
theorem dcv_20 (v : Nat → Int) (g : Nat) (since most last : Int) : (dcv v g since most last)[20]? = some (.slice (some ⟨g, 0, none⟩) 2 2) := rfl
theorem dcv_set22 (v : Nat → Int) (g : Nat) (since most last x : Int) : (dcv v g since most last).setIfInBounds 22 (.int .i64 x) = dcv v g since x last := rfl
theorem dcv_set23 (v : Nat → Int) (g : Nat) (since most last x : Int) : (dcv v g since most last).setIfInBounds 23 (.int .i64 x) = dcv v g since most x := rfl
def D2 (v u : Nat → Int) (d g m h k : Nat) (T since most last : Int) : Rep := Two (One d (dcv v g since most last) 94) (Two (One g (gc m h) 20) (Two (Wg.Met u m k) (Del h k T)))
def Dec (v : Nat → Int) (d k : Nat) (T : Int) : Rep := fun w S => ∃ g m h since most last, D2 v v d g m h k T since most last w S ∧ (-1 ≤ since ∧ since ≤ T) ∧ (0 ≤ last ∧ last ≤ T)
section
variable {v v' u : Nat → Int} {d g m h k k' : Nat} {T T' since most last : Int} {w w' : World} {S : Nat → Prop}
theorem D2.good : U.Good (D2 v u d g m h k T since most last) := Two.good (One.good _ _ _) (Two.good (One.good _ _ _) (Two.good Wg.Met.good Del.good))
theorem D2.wide : U.Wide (D2 v u d g m h k T since most last) := Two.wide
theorem Dec.good : U.Good (Dec v d k T) := ⟨fun ⟨g, m, h, a, b, c, x, y⟩ ch hd => ⟨g, m, h, a, b, c, D2.good.chg x ch hd, y⟩, fun ⟨_, _, _, _, _, _, x, _⟩ => x.1⟩
theorem Dec.wide : U.Wide (Dec v d k T) := ⟨fun ⟨g, m, h, a, b, c, x, y⟩ hs hb => ⟨g, m, h, a, b, c, D2.wide.mono x hs hb, y⟩⟩
theorem D2.more (x : D2 v u d g m h k T since most last w S) (hk : k ≤ k') (hT : T ≤ T') : D2 v u d g m h k' T' since most last w S := by
  obtain ⟨hz, A, B, hA, hB, hAB, o, hz2, A2, B2, hA2, hB2, hAB2, o2, hz3, A3, B3, hA3, hB3, hAB3, q0, q1⟩ := x
  exact ⟨hz, A, B, hA, hB, hAB, o, hz2, A2, B2, hA2, hB2, hAB2, o2, hz3, A3, B3, hA3, hB3, hAB3, met_more q0 hk, q1.more hk hT⟩
theorem Dec.more (x : Dec v d k T w S) (hk : k ≤ k') (hT : T ≤ T') : Dec v d k' T' w S := by
  obtain ⟨g, m, h, a, b, c, x, y, z⟩ := x
  exact ⟨g, m, h, a, b, c, x.more hk hT, by omega, by omega⟩
theorem D2.blk (x : D2 v u d g m h k T since most last w S) : Blk w d (dcv v g since most last) 94 := by
  obtain ⟨A, h1, _⟩ := Two.left (Two.good (One.good _ _ _) (Two.good Wg.Met.good Del.good)) x
  exact h1.2.2
theorem D2.own (x : D2 v u d g m h k T since most last w S) : S d := by
  obtain ⟨A, h1, h2, _⟩ := Two.left (Two.good (One.good _ _ _) (Two.good Wg.Met.good Del.good)) x
  exact h2 _ h1.2.1
theorem D2.gblk (x : D2 v u d g m h k T since most last w S) : Blk w g (gc m h) 20 := by
  obtain ⟨B, hq, _, _⟩ := Two.right (One.good _ _ _) x
  obtain ⟨A, h1, _⟩ := Two.left (Two.good Wg.Met.good Del.good) hq
  exact h1.2.2
theorem D2.turn {since' most' last' : Int} (x : D2 v u d g m h k T since most last w S) (c : Chg (fun k => k = d) w w') (hb : Blk w' d (dcv v' g since' most' last') 94) : D2 v' u d g m h k T since' most' last' w' (K.nx S w w') ∧ Chg S w w' := by
  obtain ⟨A, h1, h2, back⟩ := Two.left (Two.good (One.good _ _ _) (Two.good Wg.Met.good Del.good)) x
  have cA : Chg A w w' := c.mono fun k _ hk => by rw [hk]; exact h1.2.1
  exact back (One d (dcv v' g since' most' last') 94) w' ⟨fun k hk => hk.2, ⟨.inl h1.2.1, hb.lt⟩, hb⟩ cA
theorem D2.cell {since' most' last' : Int} (x : D2 v u d g m h k T since most last w S) (j : Nat) (y : Value) (he : (dcv v g since most last).setIfInBounds j y = dcv v g since' most' last') : D2 v u d g m h k T since' most' last' (w.setCell ⟨d, j, none⟩ y) (K.nx S w (w.setCell ⟨d, j, none⟩ y)) ∧ Chg S w (w.setCell ⟨d, j, none⟩ y) :=
  x.turn ((Chg.refl (fun k => k = d) w).set (a := ⟨d, j, none⟩) (fun _ => rfl) y) (he ▸ x.blk.set j y)
theorem D2.met (x : D2 v u d g m h k T since most last w S) : ∃ A : Nat → Prop, Wg.Met u m k w A ∧ (∀ g, A g → S g) ∧ ∀ (u' : Nat → Int) (k' : Nat) (w' : World), k ≤ k' → Wg.Met u' m k' w' (K.nx A w w') → Chg A w w' → D2 v u' d g m h k' T since most last w' (K.nx S w w') ∧ Chg S w w' := by
  obtain ⟨B, hq, hB, back⟩ := Two.right (One.good _ _ _) x
  obtain ⟨C, hr, hC, back2⟩ := Two.right (One.good _ _ _) hq
  obtain ⟨A, hm, hA, back3⟩ := Two.left Del.good hr
  refine ⟨A, hm, fun g hg => hB g (hC g (hA g hg)), fun u' k' w' hk hm' hc => ?_⟩
  obtain ⟨g1, g2⟩ := back3 (Wg.Met u' m k') w' hm' hc
  obtain ⟨hz3, A3, B3, hA3, hB3, hAB3, q0, q1⟩ := g1
  obtain ⟨g3, g4⟩ := back2 (Two (Wg.Met u' m k') (Del h k' T)) w' ⟨hz3, A3, B3, hA3, hB3, hAB3, q0, q1.more hk (Int.le_refl T)⟩ g2
  exact back _ w' g3 g4
theorem D2.del (x : D2 v u d g m h k T since most last w S) : ∃ A : Nat → Prop, Del h k T w A ∧ (∀ g, A g → S g) ∧ ∀ (k' : Nat) (T' : Int) (w' : World), k ≤ k' → Del h k' T' w' (K.nx A w w') → Chg A w w' → D2 v u d g m h k' T' since most last w' (K.nx S w w') ∧ Chg S w w' := by
  obtain ⟨B, hq, hB, back⟩ := Two.right (One.good _ _ _) x
  obtain ⟨C, hr, hC, back2⟩ := Two.right (One.good _ _ _) hq
  obtain ⟨A, hm, hA, back3⟩ := Two.right Wg.Met.good hr
  refine ⟨A, hm, fun g hg => hB g (hC g (hA g hg)), fun k' T' w' hk hm' hc => ?_⟩
  obtain ⟨g1, g2⟩ := back3 (Del h k' T') w' hm' hc
  obtain ⟨hz3, A3, B3, hA3, hB3, hAB3, q0, q1⟩ := g1
  obtain ⟨g3, g4⟩ := back2 (Two (Wg.Met u m k') (Del h k' T')) w' ⟨hz3, A3, B3, hA3, hB3, hAB3, met_more q0 hk, q1⟩ g2
  exact back _ w' g3 g4
end
set_option maxHeartbeats 1000000 in
theorem metric_any (v : Nat → Int) (d g m h : Nat) (since most last : Int) (w : World) (hd : Blk w d (dcv v g since most last) 94) (hg : Blk w g (gc m h) 20) : Calls Tryz.prog 67 #[.pointer (some ⟨d, 0, none⟩)] w fun e w' => e = .returned (.pointer (some ⟨m, 0, none⟩)) ∧ w = w' := by
  have c := Blk.cell hd 20
  rw [dcv_20] at c
  have c0 : w.cell? ⟨g, 0, none⟩ = some (.iface 86 (.pointer (some ⟨m, 0, none⟩))) := Blk.cell hg 0
  clear hd hg
  go_enter Tryz.func67, Tryz.ntmps67
  go_wp2
  go_ret
  exact ⟨rfl, rfl⟩
set_option maxHeartbeats 1000000 in
theorem holds_any (v : Nat → Int) (d g m h : Nat) (since most last : Int) (w : World) (hd : Blk w d (dcv v g since most last) 94) (hg : Blk w g (gc m h) 20) : Calls Tryz.prog 88 #[.pointer (some ⟨d, 0, none⟩)] w fun e w' => e = .returned (.pointer (some ⟨h, 0, none⟩)) ∧ w = w' := by
  have c := Blk.cell hd 20
  rw [dcv_20] at c
  have c0 : w.cell? ⟨g, 1, none⟩ = some (.iface 88 (.pointer (some ⟨h, 0, none⟩))) := Blk.cell hg 1
  clear hd hg
  go_enter Tryz.func88, Tryz.ntmps88
  go_wp2
  go_ret
  exact ⟨rfl, rfl⟩
set_option maxHeartbeats 1000000 in
theorem put_any (v : Nat → Int) (d k : Nat) (T t val : Int) (w : World) (S : Nat → Prop) (x : Dec v d k T w S) (g0 : 1 ≤ v 4) (hk : k + 1 ≤ 1099511627776) (t0 : 0 ≤ t) (t1 : t ≤ 1099511627776) :
    Calls Tryz.prog 60 #[.pointer (some ⟨d, 0, none⟩), .int .i64 t, .int .i64 val] w fun e w' => ∃ c : Int, e = .returned (.int .i64 c) ∧ Dec v d (k + 1) T w' (K.nx S w w') ∧ Chg S w w' := by
  obtain ⟨g, m, h, since, most, last, x, y⟩ := x
  have H := Lib.hid x
  clear x
  go_enter Tryz.func60, Tryz.ntmps60
  go_wp2_with fail
  refine (metric_any v d g m h since most last w H.out.blk H.out.gblk).mono ?_
  rintro e w1 ⟨rfl, rfl⟩
  go_wp2_with fail
  obtain ⟨A, hm, -, back⟩ := H.out.met
  have HB := Lib.hid back
  clear back
  refine (Wg.put_m v m k t val w A hm g0 hk t0 t1).mono ?_
  rintro e w2 ⟨c, rfl, h2, hc2⟩
  obtain ⟨g1, g2⟩ := HB.out v _ w2 (Nat.le_succ k) h2 hc2
  have H2 := Lib.hid g1
  have C2 := Lib.hid g2
  clear h2 hc2 g1 g2 HB hm
  go_wp2_with fail
  go_ret
  exact ⟨_, rfl, ⟨g, m, h, since, most, last, H2.out, y⟩, C2.out⟩
set_option maxHeartbeats 1000000 in
theorem over_any (v : Nat → Int) (d k : Nat) (T : Int) (w : World) (S : Nat → Prop) (x : Dec v d k T w S) :
    Calls Tryz.prog 36 #[.pointer (some ⟨d, 0, none⟩)] w fun e w' => ∃ b : Bool, e = .returned (.bool b) ∧ Chg No w w' := by
  obtain ⟨g, m, h, since, most, last, x, y⟩ := x
  have H := Lib.hid x
  clear x
  go_enter Tryz.func36, Tryz.ntmps36
  go_wp2_with fail
  refine (metric_any v d g m h since most last w H.out.blk H.out.gblk).mono ?_
  rintro e w1 ⟨rfl, rfl⟩
  go_wp2_with fail
  obtain ⟨A, hm, -, -⟩ := H.out.met
  refine (Wg.over_m v m k w A hm).mono ?_
  rintro e w2 ⟨b, rfl, hc2⟩
  have C2 := Lib.hid hc2
  clear hc2 hm
  go_wp2_with fail
  go_ret
  exact ⟨_, rfl, C2.out⟩
end Go.Proofs.YtdgphoemjeakaaaGreatDoor.Wj
namespace Go.Proofs.YtdgphoemjeakaaaGreatDoor.Wj
open Me (mw bld)
open De (gc)
open Go.RowKit K P U Mg Wk
set_option maxRecDepth 100000
@[go_sem] theorem bldv94 (v : Nat → Int) (a : Addr) (n c : Nat) (x y : Int) (w : World) : bld 94 #[(0, .agg (cf v)), (1, .slice (some a) n c), (2, .agg #[.int .i64 x, .int .i64 y])] w = .ok (.value (.agg (mw (cf v) [.slice (some a) n c, .int .i64 x, .int .i64 y, .int .i64 0]))) w := by
  kernel_rfl
theorem del_new (sp : Int) (w : World) : Del w.heap.size 0 0 (w.alloc (.cells #[.slice none 0 0, .int .i64 sp, .int .i64 0] 134)) (fun k => k = w.heap.size) := ⟨[], sp, 0, Wd.new_rep sp w, Nat.le_refl _, by omega, fun x hx => nomatch hx⟩
theorem rep {v : Nat → Int} {m x g d a : Nat} {w : World} (hm : Wg.Met v m 0 w (fun k => a ≤ k ∧ k < x)) (hx : a ≤ x) (hd : Del x 0 0 w (fun k => k = x)) (hg : x < g) (hgd : g < d) (bg : Blk w g (gc m x) 20) (bd : Blk w d (dcv v g (-1) 0 0) 94) :
    D2 v v d g m x 0 0 (-1) 0 0 w (fun k => a ≤ k ∧ k < w.heap.size) := by
  have h1 := bd.lt
  refine ⟨fun k hk => hk.2, fun k => k = d, fun k => a ≤ k ∧ k < d, fun k hk => by omega, fun k hk => by omega, fun k h h' => by omega, ⟨fun k hk => by omega, rfl, bd⟩, fun k hk => by omega, fun k => k = g, fun k => a ≤ k ∧ k < g, fun k hk => by omega, fun k hk => by omega, fun k h h' => by omega, ⟨fun k hk => by omega, rfl, bg⟩, fun k hk => by omega, fun k => a ≤ k ∧ k < x, fun k => k = x, fun k hk => by omega, fun k hk => by omega, fun k h h' => by omega, hm, hd⟩
theorem keepC {w w' : World} {B : Nat} {v : Nat → Int} (h : Hid (Blk w B (cf v) 24) ∧ rowOf w B 0 20 = some (.agg (cf v)) ∧ w.cell? ⟨B, 12, none⟩ = some (.int .i64 (v 12))) (c : Chg No w w') :
    Hid (Blk w' B (cf v) 24) ∧ rowOf w' B 0 20 = some (.agg (cf v)) ∧ w'.cell? ⟨B, 12, none⟩ = some (.int .i64 (v 12)) := by
  have hb : Blk w' B (cf v) 24 := h.1.out.kept c
  have hr := rowOf_blk hb
  rw [cf_size] at hr
  exact ⟨hb, hr, cell_cf hb 12⟩
set_option maxHeartbeats 1000000 in
theorem new_any (v : Nat → Int) (hv : mayB v = true) (w : World) : Calls Tryz.prog 19 #[.agg (cf v)] w fun e w' => ∃ d, e = .returned (.pointer (some ⟨d, 0, none⟩)) ∧ Dec v d 0 0 w' (fun k => w.heap.size ≤ k ∧ k < w'.heap.size) ∧ Chg No w w' := by
  have HM := Lib.hid (may_t v hv)
  have HN := Lib.hid (Wg.new_m v hv)
  obtain ⟨-, -, -, -, -, -, -, -, -, ⟨b0, b1⟩, -⟩ := may_bd hv
  clear hv
  go_enter Tryz.func19, Tryz.ntmps19
  go_wp2_with fail
  have hB : Blk (w.alloc (.cells (cf v) 24)) w.heap.size (cf v) 24 := Blk.new _ _ _
  have HC : Hid (Chg No w (w.alloc (.cells (cf v) 24))) := (Chg.refl No w).alloc _
  generalize w.alloc (.cells (cf v) 24) = w1 at *
  generalize w.heap.size = B at *
  have hr := rowOf_blk hB
  rw [cf_size] at hr
  first | (refine (HM.out _).mono ?_; rintro e w2 ⟨rfl, hc⟩; go_wp2_with fail) | (go_wp2_with (first | (go_at_call 16; refine (HM.out _).mono ?_; rintro e w2 ⟨rfl, hc⟩)))
  have hB2 := hB.kept hc
  have hr2 := rowOf_blk hB2
  rw [cf_size] at hr2
  have HC2 := Lib.hid (HC.out.trans hc)
  clear hB hr hc HC HM
  have hS : Hid (Blk w2.drew B (cf v) 24) ∧ rowOf w2.drew B 0 20 = some (.agg (cf v)) ∧ w2.drew.cell? ⟨B, 12, none⟩ = some (.int .i64 (v 12)) := ⟨hB2, hr2, cell_cf hB2 12⟩
  go_region_held3 (fun w' => Hid (Blk w' B (cf v) 24) ∧ rowOf w' B 0 20 = some (.agg (cf v)) ∧ w'.cell? ⟨B, 12, none⟩ = some (.int .i64 (v 12))) (first | exact hS | assumption | exact keepC (by assumption) hc3 | exact keepC (by assumption) hc5 | exact keepC (by assumption) ((Chg.refl No _).alloc _)) (first | (go_at_call 40; refine (HN.out _).mono ?_; rintro e w3 ⟨m, rfl, hmet, hc3⟩) | (go_at_call 41; refine (Wd.new_any (v 12) _ b0 b1).mono ?_; rintro e w4 ⟨rfl, rfl⟩) | (go_at_call 42; refine (calm_any _).mono ?_; rintro e w5 ⟨rfl, hc5⟩))
  · have C3 : Chg No w2 w3 := (Chg.refl No w2).drew.trans hc3
    have z1 := HC2.out.size
    have z2 := C3.size
    have s4 : (w3.alloc (.cells #[.slice none 0 0, .int .i64 (v 12), .int .i64 0] 134)).heap.size = w3.heap.size + 1 := by simp
    have d4 := del_new (v 12) w3
    have g4 := Blk.new (w3.alloc (.cells #[.slice none 0 0, .int .i64 (v 12), .int .i64 0] 134)) (gc m w3.heap.size) 20
    rw [s4] at g4
    have z3 : w3.heap.size + 2 ≤ w5.heap.size := by have := hc5.size; simp at this; omega
    have HR := Lib.hid (rep (w := w5.alloc (.cells (dcv v (w3.heap.size + 1) (-1) 0 0) 94)) (d := w5.heap.size) (Wg.Met.good.kept hmet ((((Chg.refl No w3).alloc _).alloc _).trans (hc5.alloc _))) (by show w2.heap.size ≤ _; omega) (Del.good.kept d4 (((Chg.refl No _).alloc _).trans (hc5.alloc _))) (by omega) (by omega) (g4.kept (hc5.alloc _)) (Blk.new _ _ _))
    have HC := Lib.hid (HC2.out.trans (C3.trans ((((Chg.refl No w3).alloc _).alloc _).trans (hc5.alloc (.cells (dcv v (w3.heap.size + 1) (-1) 0 0) 94)))))
    clear hmet hc3 hc5 d4 g4
    go_wp2
    go_ret
    exact ⟨_, rfl, ⟨_, _, _, _, _, _, D2.wide.mono HR.out (fun k hk => ⟨Nat.le_trans z1 hk.1, hk.2⟩) fun _ hk => hk.2, by omega, by omega⟩, HC.out⟩
  · have C3 : Chg No w2 w3 := (Chg.refl No w2).drew.trans hc3
    have z1 := HC2.out.size
    have z2 := C3.size
    have s4 : (w3.alloc (.cells #[.slice none 0 0, .int .i64 (v 12), .int .i64 0] 134)).heap.size = w3.heap.size + 1 := by simp
    have d4 := del_new (v 12) w3
    have g4 := Blk.new w5 (gc m w3.heap.size) 20
    have z3 : w3.heap.size + 1 ≤ w5.heap.size := by have := hc5.size; simp at this; omega
    have s5 : (w5.alloc (.cells (gc m w3.heap.size) 20)).heap.size = w5.heap.size + 1 := by simp
    have e5 := Blk.new (w5.alloc (.cells (gc m w3.heap.size) 20)) (dcv v w5.heap.size (-1) 0 0) 94
    rw [s5] at e5
    have HR := Lib.hid (rep (w := (w5.alloc (.cells (gc m w3.heap.size) 20)).alloc (.cells (dcv v w5.heap.size (-1) 0 0) 94)) (d := w5.heap.size + 1) (g := w5.heap.size) (Wg.Met.good.kept hmet (((Chg.refl No w3).alloc _).trans ((hc5.alloc _).alloc _))) (by show w2.heap.size ≤ _; omega) (Del.good.kept d4 ((hc5.alloc _).alloc _)) (by omega) (by omega) (g4.kept ((Chg.refl No _).alloc _)) e5)
    have HC := Lib.hid (HC2.out.trans (C3.trans (((Chg.refl No w3).alloc _).trans ((hc5.alloc (.cells (gc m w3.heap.size) 20)).alloc (.cells (dcv v w5.heap.size (-1) 0 0) 94)))))
    clear hmet hc3 hc5 d4 g4 e5
    go_wp2
    go_ret
    exact ⟨_, rfl, ⟨_, _, _, _, _, _, D2.wide.mono HR.out (fun k hk => ⟨Nat.le_trans z1 hk.1, hk.2⟩) fun _ hk => hk.2, by omega, by omega⟩, HC.out⟩
end Go.Proofs.YtdgphoemjeakaaaGreatDoor.Wj
namespace Go.Proofs.YtdgphoemjeakaaaGreatDoor.Wj
open De (gc)
open Go.RowKit K P U Mg Wk
open W Rg
noncomputable def ops_c5 : Array Oper := reg Tryz.f57 5
theorem sz_c5 : ops_c5.size = 4 := by kernel_rfl
set_option maxHeartbeats 2000000 in
set_option maxRecDepth 1000000 in
theorem wp_c5 {ops : Array Oper} (ho : ops = ops_c5) {id : Nat} {Q : Exit → Act → World → Prop} {t0 : Array Value} {w1 : World} {v v' : Nat → Int} {d g m h : Nat} {since most last : Int} {B : Nat} {R : Int → World → Prop} (bd : Blk w1 d (dcv v g since most last) 94) (bg : Blk w1 g (gc m h) 20) (bB : Blk w1 B (cf v') 24) (hc : ∀ q, Calls Tryz.prog 87 #[.pointer (some ⟨m, 0, none⟩), .agg (cf v')] (w1.drewN q) fun e w' => ∃ c : Int, e = .returned (.int .i64 c) ∧ R c w') (hs : t0.size = 37) (t0_0 : t0[0]? = some (.pointer (some ⟨d, 0, none⟩))) (t0_3 : t0[3]? = some (.pointer (some ⟨B, 0, none⟩)))
    (hend : ∀ (x : Int) (w' : World), (R x w') → Q .normal ⟨puts ([(some 12, .pointer (some ⟨d, 0, none⟩)),
  (some 13, .pointer (some ⟨m, 0, none⟩)),
  (some 14, .agg (cf v')),
  (some 15, .int .i64 x)]) t0, []⟩ w') : (Code.region id ops true).wp Tryz.prog Q ⟨t0, []⟩ w1 := by
  subst ho
  have F : Flows (X := Int) ops_c5 (fun x => [(some 12, .pointer (some ⟨d, 0, none⟩)),
  (some 13, .pointer (some ⟨m, 0, none⟩)),
  (some 14, .agg (cf v')),
  (some 15, .int .i64 x)]) [(0, .pointer (some ⟨d, 0, none⟩)), (3, .pointer (some ⟨B, 0, none⟩))] t0 4 := Flows.of (by kernel_rfl) hs (fun _ => by kernel_rfl) (.cons t0_0 (.cons t0_3 .nil))
  have no3 : ∀ (L : Nat → Bool) (i m : Nat), anc ops_c5 m 3 i = true → (∀ k, L k = true → ∀ m, anc ops_c5 m k i = false) → L 3 = false := fun L i m ha h => by
    cases hl : L 3 with
    | false => rfl
    | true => rw [h 3 hl m] at ha; cases ha
  refine wp_flow (Wd := fun x L w => (L 3 = true → R x w) ∧ (L 3 = false → ∃ q, w = w1.drewN q)) F rfl 0 ⟨(fun h => nomatch h), fun _ => ⟨1, rfl⟩⟩ (fun i hi => ?_) (fun x L w' hl hw => hend x w' (hw.1 (hl 3 (by rw [sz_c5]; decide))))
  rw [sz_c5] at hi
  match i, hi with
  | 0, _ => exact stepP F rfl (fun _ => rfl) (fun _ _ => by kernel_rfl) (fun _ => rfl) (fun _ _ _ h => h)
  | 1, _ => exact stepC 67 (fun x => #[.pointer (some ⟨d, 0, none⟩)]) F rfl (fun _ => rfl) (fun _ => rfl) (fun _ _ => by kernel_rfl) (fun x L w z1 z2 z3 h => by
      obtain ⟨q, rfl⟩ := h.2 (no3 L 1 3 (by kernel_rfl) z3)
      exact (metric_any v d g m _ since most last _ (bd.drewN q) (bg.drewN q)).mono fun e w' ⟨a, b⟩ => ⟨a, b ▸ h⟩)
  | 2, _ => exact stepW (fun x => (B, 0)) F rfl (fun _ => rfl) (fun _ => rfl) rfl (fun _ => rfl) Tryz.underlying24 rfl (fun _ => by kernel_rfl) (fun x L w z1 z2 z3 h => ⟨by
      obtain ⟨q, rfl⟩ := h.2 (no3 L 2 3 (by kernel_rfl) z3)
      intro j _
      rw [Nat.zero_add]
      exact (bB.drewN q).cell j, h⟩)
  | 3, _ => exact stepY 87 (fun x => #[.pointer (some ⟨m, 0, none⟩), .agg (cf v')]) F rfl (fun _ => rfl) (fun _ => rfl) (fun _ _ => by kernel_rfl) (fun x L w z1 z2 z3 h => by
      obtain ⟨q, rfl⟩ := h.2 z1
      exact (hc q).mono fun e w' ⟨y, he, hy⟩ => ⟨y, he, but_one z1 rfl, (fun _ => hy), fun h => nomatch h⟩)
  | n + 4, h => exact absurd h (by omega)
noncomputable def ops_c6 : Array Oper := reg Tryz.f57 6
theorem sz_c6 : ops_c6.size = 5 := by kernel_rfl
set_option maxHeartbeats 2000000 in
set_option maxRecDepth 1000000 in
theorem wp_c6 {ops : Array Oper} (ho : ops = ops_c6) {id : Nat} {Q : Exit → Act → World → Prop} {t0 : Array Value} {w1 : World} {v v' : Nat → Int} {d g m h : Nat} {since most last : Int} {B : Nat} {R : Int → World → Prop} (bd : Blk w1 d (dcv v g since most last) 94) (bg : Blk w1 g (gc m h) 20) (bB : Blk w1 B (cf v') 24) (hc : ∀ q, Calls Tryz.prog 89 #[.pointer (some ⟨h, 0, none⟩), .int .i64 (v' 12)] (w1.drewN q) fun e w' => ∃ c : Int, e = .returned (.int .i64 c) ∧ R c w') (hs : t0.size = 37) (t0_0 : t0[0]? = some (.pointer (some ⟨d, 0, none⟩))) (t0_3 : t0[3]? = some (.pointer (some ⟨B, 0, none⟩)))
    (hend : ∀ (x : Int) (w' : World), (R x w') → Q .normal ⟨puts ([(some 16, .pointer (some ⟨d, 0, none⟩)),
  (some 17, .pointer (some ⟨h, 0, none⟩)),
  (some 18, .pointer (some ⟨B, 12, none⟩)),
  (some 19, .int .i64 (v' 12)),
  (some 20, .int .i64 x)]) t0, []⟩ w') : (Code.region id ops true).wp Tryz.prog Q ⟨t0, []⟩ w1 := by
  subst ho
  have F : Flows (X := Int) ops_c6 (fun x => [(some 16, .pointer (some ⟨d, 0, none⟩)),
  (some 17, .pointer (some ⟨h, 0, none⟩)),
  (some 18, .pointer (some ⟨B, 12, none⟩)),
  (some 19, .int .i64 (v' 12)),
  (some 20, .int .i64 x)]) [(0, .pointer (some ⟨d, 0, none⟩)), (3, .pointer (some ⟨B, 0, none⟩))] t0 4 := Flows.of (by kernel_rfl) hs (fun _ => by kernel_rfl) (.cons t0_0 (.cons t0_3 .nil))
  have no4 : ∀ (L : Nat → Bool) (i m : Nat), anc ops_c6 m 4 i = true → (∀ k, L k = true → ∀ m, anc ops_c6 m k i = false) → L 4 = false := fun L i m ha h => by
    cases hl : L 4 with
    | false => rfl
    | true => rw [h 4 hl m] at ha; cases ha
  refine wp_flow (Wd := fun x L w => (L 4 = true → R x w) ∧ (L 4 = false → ∃ q, w = w1.drewN q)) F rfl 0 ⟨(fun h => nomatch h), fun _ => ⟨1, rfl⟩⟩ (fun i hi => ?_) (fun x L w' hl hw => hend x w' (hw.1 (hl 4 (by rw [sz_c6]; decide))))
  rw [sz_c6] at hi
  match i, hi with
  | 0, _ => exact stepP F rfl (fun _ => rfl) (fun _ _ => by kernel_rfl) (fun _ => rfl) (fun _ _ _ h => h)
  | 1, _ => exact stepC 88 (fun x => #[.pointer (some ⟨d, 0, none⟩)]) F rfl (fun _ => rfl) (fun _ => rfl) (fun _ _ => by kernel_rfl) (fun x L w z1 z2 z3 h => by
      obtain ⟨q, rfl⟩ := h.2 (no4 L 1 3 (by kernel_rfl) z3)
      exact (holds_any v d g _ _ since most last _ (bd.drewN q) (bg.drewN q)).mono fun e w' ⟨a, b⟩ => ⟨a, b ▸ h⟩)
  | 2, _ => exact stepP F rfl (fun _ => rfl) (fun _ _ => by kernel_rfl) (fun _ => rfl) (fun _ _ _ h => h)
  | 3, _ => exact stepL (fun x => ⟨B, 12, none⟩) F rfl (fun _ => rfl) (fun _ => rfl) rfl (fun _ => rfl) Tryz.underlying3 rfl (fun x L w z1 z2 z3 h => ⟨by
      obtain ⟨q, rfl⟩ := h.2 (no4 L 3 3 (by kernel_rfl) z3)
      exact (bB.drewN q).cell 12, h⟩)
  | 4, _ => exact stepY 89 (fun x => #[.pointer (some ⟨h, 0, none⟩), .int .i64 (v' 12)]) F rfl (fun _ => rfl) (fun _ => rfl) (fun _ _ => by kernel_rfl) (fun x L w z1 z2 z3 h => by
      obtain ⟨q, rfl⟩ := h.2 z1
      exact (hc q).mono fun e w' ⟨y, he, hy⟩ => ⟨y, he, but_one z1 rfl, (fun _ => hy), fun h => nomatch h⟩)
  | n + 5, h => exact absurd h (by omega)
noncomputable def ops_c7 : Array Oper := reg Tryz.f57 7
theorem sz_c7 : ops_c7.size = 13 := by kernel_rfl
set_option maxHeartbeats 2000000 in
set_option maxRecDepth 1000000 in
theorem wp_c7 {ops : Array Oper} (ho : ops = ops_c7) {id : Nat} {Q : Exit → Act → World → Prop} {t0 : Array Value} {w1 : World} {v v' : Nat → Int} {d g : Nat} {since most last : Int} {B : Nat} (bd : Blk w1 d (dcv v g since most last) 94) (bB : Blk w1 B (cf v') 24) (hs : t0.size = 37) (t0_0 : t0[0]? = some (.pointer (some ⟨d, 0, none⟩))) (t0_3 : t0[3]? = some (.pointer (some ⟨B, 0, none⟩)))
    (hend : ∀ (_x : Unit) (w' : World), (∃ q, Chg No w1 q ∧ w' = q.setCell ⟨d, 22, none⟩ (.int .i64 (if mostV v' < most then mostV v' else most))) → Q .normal ⟨puts ([(some 21, .pointer (some ⟨d, 0, none⟩)),
  (some 22, .pointer (some ⟨d, 0, none⟩)),
  (some 23, .pointer (some ⟨d, 0, none⟩)),
  (some 24, .pointer (some ⟨d, 21, none⟩)),
  (some 25, .pointer (some ⟨d, 22, none⟩)),
  (some 26, .int .i64 most),
  (some 27, .agg (cf v')),
  (some 28, .int .i64 (mostV v')),
  (some 29, .int .i64 (if mostV v' < most then mostV v' else most)),
  (some 30, .pointer (some ⟨d, 0, none⟩)),
  (some 31, .pointer (some ⟨d, 21, none⟩)),
  (some 32, .pointer (some ⟨d, 22, none⟩)),
  (none, undef)]) t0, []⟩ w') : (Code.region id ops true).wp Tryz.prog Q ⟨t0, []⟩ w1 := by
  subst ho
  have F : Flows (X := Unit) ops_c7 (fun x => [(some 21, .pointer (some ⟨d, 0, none⟩)),
  (some 22, .pointer (some ⟨d, 0, none⟩)),
  (some 23, .pointer (some ⟨d, 0, none⟩)),
  (some 24, .pointer (some ⟨d, 21, none⟩)),
  (some 25, .pointer (some ⟨d, 22, none⟩)),
  (some 26, .int .i64 most),
  (some 27, .agg (cf v')),
  (some 28, .int .i64 (mostV v')),
  (some 29, .int .i64 (if mostV v' < most then mostV v' else most)),
  (some 30, .pointer (some ⟨d, 0, none⟩)),
  (some 31, .pointer (some ⟨d, 21, none⟩)),
  (some 32, .pointer (some ⟨d, 22, none⟩)),
  (none, undef)]) [(0, .pointer (some ⟨d, 0, none⟩)), (3, .pointer (some ⟨B, 0, none⟩))] t0 7 := Flows.of (by kernel_rfl) hs (fun _ => by kernel_rfl) (.cons t0_0 (.cons t0_3 .nil))
  have no12 : ∀ (L : Nat → Bool) (i m : Nat), anc ops_c7 m 12 i = true → (∀ k, L k = true → ∀ m, anc ops_c7 m k i = false) → L 12 = false := fun L i m ha h => by
    cases hl : L 12 with
    | false => rfl
    | true => rw [h 12 hl m] at ha; cases ha
  refine wp_flow (Wd := fun x L w => (L 12 = true → ∃ q, Chg No w1 q ∧ w = q.setCell ⟨d, 22, none⟩ (.int .i64 (if mostV v' < most then mostV v' else most))) ∧ (L 12 = false → ∃ q, Chg No w1 q ∧ w = q)) F rfl () ⟨(fun h => nomatch h), fun _ => ⟨w1.drew, (Chg.refl No w1).drew, rfl⟩⟩ (fun i hi => ?_) (fun x L w' hl hw => hend x w' (hw.1 (hl 12 (by rw [sz_c7]; decide))))
  rw [sz_c7] at hi
  match i, hi with
  | 0, _ => exact stepP F rfl (fun _ => rfl) (fun _ _ => by kernel_rfl) (fun _ => rfl) (fun _ _ _ h => h)
  | 1, _ => exact stepP F rfl (fun _ => rfl) (fun _ _ => by kernel_rfl) (fun _ => rfl) (fun _ _ _ h => h)
  | 2, _ => exact stepP F rfl (fun _ => rfl) (fun _ _ => by kernel_rfl) (fun _ => rfl) (fun _ _ _ h => h)
  | 3, _ => exact stepP F rfl (fun _ => rfl) (fun _ _ => by kernel_rfl) (fun _ => rfl) (fun _ _ _ h => h)
  | 4, _ => exact stepP F rfl (fun _ => rfl) (fun _ _ => by kernel_rfl) (fun _ => rfl) (fun _ _ _ h => h)
  | 5, _ => exact stepL (fun x => ⟨d, 22, none⟩) F rfl (fun _ => rfl) (fun _ => rfl) rfl (fun _ => rfl) Tryz.underlying3 rfl (fun x L w z1 z2 z3 h => ⟨by
      obtain ⟨q, hq, rfl⟩ := h.2 (no12 L 5 6 (by kernel_rfl) z3)
      exact (bd.kept hq).cell 22, h⟩)
  | 6, _ => exact stepW (fun x => (B, 0)) F rfl (fun _ => rfl) (fun _ => rfl) rfl (fun _ => rfl) Tryz.underlying24 rfl (fun _ => by kernel_rfl) (fun x L w z1 z2 z3 h => ⟨by
      obtain ⟨q, hq, rfl⟩ := h.2 (no12 L 6 6 (by kernel_rfl) z3)
      intro j _
      rw [Nat.zero_add]
      exact (bB.kept hq).cell j, h⟩)
  | 7, _ => exact stepC 66 (fun x => #[.agg (cf v')]) F rfl (fun _ => rfl) (fun _ => rfl) (fun _ _ => by kernel_rfl) (fun x L w z1 z2 z3 h => by
      have hn := no12 L 7 6 (by kernel_rfl) z3
      obtain ⟨q, hq, rfl⟩ := h.2 hn
      exact (most_w v' _).mono fun e w' ⟨a, b⟩ => ⟨a, (fun h => absurd (hn.symm.trans h) (by decide)), fun _ => ⟨w', hq.trans b, rfl⟩⟩)
  | 8, _ => exact stepP F rfl (fun _ => rfl) (fun _ _ => by kernel_rfl) (fun _ => rfl) (fun _ _ _ h => h)
  | 9, _ => exact stepP F rfl (fun _ => rfl) (fun _ _ => by kernel_rfl) (fun _ => rfl) (fun _ _ _ h => h)
  | 10, _ => exact stepP F rfl (fun _ => rfl) (fun _ _ => by kernel_rfl) (fun _ => rfl) (fun _ _ _ h => h)
  | 11, _ => exact stepP F rfl (fun _ => rfl) (fun _ _ => by kernel_rfl) (fun _ => rfl) (fun _ _ _ h => h)
  | 12, _ => exact stepS (fun x => (d, 22)) F rfl (fun _ => rfl) (fun _ => rfl) rfl rfl (fun _ => rfl) (fun _ => rfl) (by kernel_rfl) (fun _ => rfl) (fun x L w z1 z2 z3 h => by
      obtain ⟨q, hq, rfl⟩ := h.2 z1
      exact ⟨⟨_, (bd.kept hq).cell 22⟩, (bd.kept hq).free 22, (fun _ => ⟨w, hq, rfl⟩), fun h => nomatch h⟩)
  | n + 13, h => exact absurd h (by omega)
end Go.Proofs.YtdgphoemjeakaaaGreatDoor.Wj
