/- The whole service: told. -/
import Derived.Test.YtdgphoemjeakaaaGreatDoorQ22
import Derived.Test.YtdgphoemjeakaaaGreatDoorQ11
namespace Go.Proofs.YtdgphoemjeakaaaGreatDoor.Y
open Go.Proofs.YtdgphoemjeakaaaGreatDoor.Rg
open Go.Proofs.YtdgphoemjeakaaaGreatDoor.Me
open Go.RowKit Go.Proofs.YtdgphoemjeakaaaGreatDoor Go.Proofs.YtdgphoemjeakaaaGreatDoor.K Go.Proofs.YtdgphoemjeakaaaGreatDoor.P Go.Proofs.YtdgphoemjeakaaaGreatDoor.U Go.Proofs.YtdgphoemjeakaaaGreatDoor.R
set_option maxRecDepth 100000

theorem tell_ok : P.Ok 20000 1 10 3 := ⟨.inr ⟨by decide, by decide⟩, ⟨by decide, by decide⟩, ⟨by decide, by decide⟩, ⟨by decide, by decide⟩⟩

theorem finishes_succ (li : Int) : ∀ (n : Nat) (s : V.Sys), V.finishes li (n + 1) s = (V.finish li 0 (V.finishes li n s)).2
  | 0, _ => rfl
  | n + 1, s => by
    show V.finishes li (n + 1) (V.finish li 0 s).2 = _
    rw [finishes_succ li n]
    rfl
theorem finish_now (li : Int) (n : Nat) (s : V.Sys) : (V.finish li n s).2.now = s.now := by
  unfold V.finish
  split <;> rfl
theorem finishes_inv {li : Int} {s : V.Sys} (h : V.Inv li s) : ∀ n : Nat, V.Inv li (V.finishes li n s) ∧ (V.finishes li n s).rs.length = s.rs.length ∧ (V.finishes li n s).now = s.now
  | 0 => ⟨h, rfl, rfl⟩
  | n + 1 => by
    obtain ⟨h1, h2, h3⟩ := finishes_inv h n
    rw [finishes_succ]
    exact ⟨h1.finish, (V.finish_len li 0 _).trans h2, (finish_now li 0 _).trans h3⟩
attribute [local go_sem ↓] exec_sto24 exec_sto38
attribute [local go_sem] sto24
set_option maxHeartbeats 8000000 in
theorem told_any (hm : Said.may) (w : World) : Calls Tryz.prog 10 #[] w fun e w' => e = .returned (.bool true) ∧ Chg No w w' := by
  have HM := Lib.hid hm
  clear hm
  have hT := V.told_true
  unfold V.told V.down V.up at hT
  have i0 : V.Inv 10 (V.new 20000 1 10) := V.Inv.new (by decide) (by decide) (by decide)
  have l0 : (V.new 20000 1 10).rs.length = 0 := rfl
  have n0 : (V.new 20000 1 10).now = 0 := rfl
  obtain ⟨s0, e0⟩ : ∃ s0, V.new 20000 1 10 = s0 := ⟨_, rfl⟩
  rw [e0] at hT i0 l0 n0
  have i1 := V.Inv.arrives (li := 10) 30 i0
  have l1 := V.arrives_len 10 30 s0
  have n1 := arrives_now 10 30 s0
  rw [l0] at l1
  rw [n0] at n1
  obtain ⟨s1, e1⟩ : ∃ s1, V.arrives 10 30 s0 = s1 := ⟨_, rfl⟩
  rw [e1] at hT i1 l1 n1
  have i2 := V.Inv.ticks (bu := 20000) (rd := 3) (li := 10) (by decide) (by decide) 10 i1
  have l2 := V.ticks_len 20000 10 3 10 s1
  have n2 := V.ticks_now 20000 10 3 10 s1
  rw [l1] at l2
  rw [n1] at n2
  obtain ⟨s2, e2⟩ : ∃ s2, V.ticks 20000 10 3 10 s1 = s2 := ⟨_, rfl⟩
  rw [e2] at hT i2 l2 n2
  have hf := finishes_inv i2
  obtain ⟨i3, l3, n3⟩ := hf 30
  obtain ⟨s3, e3⟩ : ∃ s3, V.finishes 10 30 s2 = s3 := ⟨_, rfl⟩
  rw [e3] at hT i3 l3 n3
  rw [l2] at l3
  rw [n2] at n3
  have i4 := V.Inv.ticks (bu := 20000) (rd := 3) (li := 10) (by decide) (by decide) 200 i3
  have l4 := V.ticks_len 20000 10 3 200 s3
  rw [l3] at l4
  obtain ⟨s4, e4⟩ : ∃ s4, V.ticks 20000 10 3 200 s3 = s4 := ⟨_, rfl⟩
  rw [e4] at hT i4 l4
  simp only [Bool.and_eq_true, beq_iff_eq, decide_eq_true_eq] at hT
  have HT := Lib.hid hT
  have HE := Lib.hid (And.intro e0 (And.intro e1 (And.intro e2 (And.intro e3 e4))))
  clear e0 e1 e2 e3 e4
  have I0 := Lib.hid i0
  have I1 := Lib.hid i1
  have I2 := Lib.hid i2
  have I3 := Lib.hid i3
  have I4 := Lib.hid i4
  have HF := Lib.hid hf
  clear hT i0 i1 i2 i3 i4 hf
  go_enter Tryz.func10, Tryz.ntmps10
  go_wp2_with fail
  refine (default_any w).mono ?_
  rintro e w1 ⟨rfl, hc1⟩
  have HC1 := Lib.hid hc1
  clear hc1
  go_wp2_with fail
  refine (new_at HM.out 20000 1 10 3 tell_ok w1).mono ?_
  rintro e w2 ⟨a, rfl, ⟨hbu, hini, hli, hrd⟩, h2⟩
  rw [HE.out.1] at h2
  have H2 := Lib.hid h2
  have J0 : Hid (V.Inv a.li s0) := by rw [hli]; exact I0
  have J1 : Hid (V.Inv a.li s1) := by rw [hli]; exact I1
  have J2 : Hid (V.Inv a.li s2) := by rw [hli]; exact I2
  have JF : Hid (∀ n, V.Inv a.li (V.finishes 10 n s2) ∧ (V.finishes 10 n s2).rs.length = s2.rs.length ∧ (V.finishes 10 n s2).now = s2.now) := by rw [hli]; exact HF
  have J3 : Hid (V.Inv a.li s3) := by rw [hli]; exact I3
  have J4 : Hid (V.Inv a.li s4) := by rw [hli]; exact I4
  have HK : Hid (P.Ok a.bu a.ini a.li a.rd) := by
    rw [hbu, hini, hli, hrd]
    exact tell_ok
  clear h2
  go_wp2_with fail
  refine (do_arrive H2.out J0.out 30 _ ⟨by decide, by decide⟩ no_text (by omega) (by omega) (by omega) (by omega)).mono ?_
  rintro e w3 ⟨rfl, h3⟩
  rw [hli, HE.out.2.1] at h3
  have H3 := Lib.hid h3
  clear h3
  go_wp2_with fail
  refine (do_tick HM.out HK.out H3.out J1.out 10 _ ⟨by decide, by decide⟩ no_text (by omega) (by omega)).mono ?_
  rintro e w4 ⟨rfl, h4⟩
  rw [hbu, hli, hrd, HE.out.2.2.1] at h4
  have H4 := Lib.hid h4
  clear h4
  go_wp2_with fail
  refine (see_at H4.out J2.out (by omega)).mono ?_
  rintro e w5 ⟨x5, rfl, -, hc5⟩
  have c6 : Chg No w4 (w5.alloc (.cells (vs s2 x5) 38)) := hc5.alloc _
  have hAB := H4.out.base c6
  have hAO := fun s w (h : Aft a (K.nx No w1 w4) (w5.alloc (.cells (vs s2 x5) 38)) s w) => H4.out.out HC1.out c6 h
  have hB5 := Blk.new w5 (vs s2 x5) 38
  have hSB : ¬ K.nx No w1 w4 w5.heap.size := fun h => by have := nx_bd h; have := hc5.size; omega
  have H5 := Lib.hid hAB
  have HAO := Lib.hid hAO
  have B5 := Lib.hid hB5
  have HSB := Lib.hid hSB
  clear hc5 c6 hAB hAO hB5 hSB
  go_wp2_with fail
  rw [sto38]
  generalize w5.alloc (.cells (vs s2 x5) 38) = w6 at *
  generalize w5.heap.size = BB at *
  generalize K.nx No w1 w4 = SS at *
  go_wp2_with fail
  obtain ⟨N, hN⟩ : ∃ N : Nat, N = 30 := ⟨_, rfl⟩
  go_loopw [4] (fun i wr => ∃ j : Nat, j ≤ N ∧ i = .int .i64 j ∧ Hid (Aft a SS w6 (V.finishes 10 j s2) wr)) (fun i _ => N - (intOf i).toNat)
  case atStart => exact ⟨0, Nat.zero_le _, rfl, H5⟩
  case round =>
    obtain ⟨j, hj, rfl, HR⟩ := hrel
    by_cases hlt : j < 30
    · obtain ⟨hji, hjl, hjn⟩ := JF.out j
      have hsu := finishes_succ 10 j s2
      obtain ⟨sj, ej⟩ : ∃ sj, V.finishes 10 j s2 = sj := ⟨_, rfl⟩
      have hr := HR.out
      rw [ej] at hsu hji hjl hjn hr
      rw [l2] at hjl
      rw [n2] at hjn
      have HRJ := Lib.hid hr
      have HSU := Lib.hid (And.intro hsu trivial)
      have HJI := Lib.hid hji
      clear ej hsu hji hr HR
      go_wp2_with fail
      refine (do_finish HRJ.out HJI.out 0 _ (by decide) no_text (by omega) (by omega) (by omega) (by omega)).mono ?_
      rintro e w7 ⟨rfl, h7⟩
      rw [hli, ← HSU.out.1] at h7
      have H7 := Lib.hid h7
      clear h7
      go_wp2_with fail
      go_roundw
      case rel => exact ⟨j + 1, by omega, by go_num, H7⟩
      case measure => simp [intOf]; omega
    · obtain rfl : j = 30 := by omega
      have hr := HR.out
      rw [HE.out.2.2.2.1] at hr
      have H3 := Lib.hid hr
      clear hr HR
      go_wp2_with fail
      refine (do_tick HM.out HK.out H3.out J3.out 200 _ ⟨by decide, by decide⟩ no_text (by omega) (by omega)).mono ?_
      rintro e w8 ⟨rfl, h8⟩
      rw [hbu, hli, hrd, HE.out.2.2.2.2] at h8
      have H8 := Lib.hid h8
      clear h8
      go_wp2_with fail
      refine (see_at H8.out J4.out (by omega)).mono ?_
      rintro e w9 ⟨x9, rfl, -, hc9⟩
      have H9 := Lib.hid (H8.out.no (hc9.alloc (.cells (vs s4 x9) 38)))
      have B9 := Lib.hid (Blk.new w9 (vs s4 x9) 38)
      clear hc9
      obtain ⟨t1, t2, t3, t4, t5, t6, t7⟩ := HT.out
      obtain ⟨-, -, q2, -, q4, -, q6⟩ := vs_cells (B5.out.chg H9.out.chg HSB.out)
      obtain ⟨-, r1, -, r3, r4, -, -⟩ := vs_cells B9.out
      obtain ⟨-, r10, -, -, -⟩ := vs_ends B9.out
      rw [t1] at q6
      rw [t3] at q2
      rw [t4] at r4
      rw [t5] at r1
      rw [t6] at r10
      rw [t7] at r3
      have d2 : decide ((1 : Int) < (s2.pods.length : Int)) = true := decide_eq_true (by omega)
      have HAE := Lib.hid (HAO.out _ _ H9.out)
      clear H9 B9 B5 H8 H5 HT t1 t2 t3 t4 t5 t6 t7
      go_wp2_with fail
      rw [sto38]
      generalize w9.alloc (.cells (vs s4 x9) 38) = w10 at *
      generalize w9.heap.size = B2 at *
      go_wp2_with fail
      go_ret
      exact ⟨rfl, HAE.out⟩
end Go.Proofs.YtdgphoemjeakaaaGreatDoor.Y
