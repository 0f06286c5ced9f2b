/- The reference's pod: Stat. -/
import Derived.Test.YtnlfocmmnjgmpaaE2
namespace Go.Proofs.Ytnlfocmmnjgmpaa.E
open Go.RowKit Go.Proofs.Ytnlfocmmnjgmpaa.Fl Go.Proofs.Ytnlfocmmnjgmpaa.L Go.Proofs.Ytnlfocmmnjgmpaa.B Go.Proofs.Ytnlfocmmnjgmpaa.D Go.Proofs.Ytnlfocmmnjgmpaa.D2
open Go.Proofs.Ytnlfocmmnjgmpaa.R (Rb)

set_option maxHeartbeats 2000000 in
theorem stat_yes (p g : Nat) (id made told last sum a b l d now : Int) (w : World) (h : Rd w p g id made told last sum a b l d) (o : Ok id made told last sum a b l d) (h1 : last ≤ now) (h2 : now ≤ 1099511627776) (hlt : told < now) :
    Calls Try.prog 56 #[.pointer (some ⟨p, 0, none⟩), .int .i64 now] w (Post w p g (.agg #[.int .i64 id, .int .i64 (now - made), .int .i64 (sumAt last sum a b now * 1000 / (now - told))]) id made now now 0 a b l d) := by
  have A := Lib.hid fun W hW => on_yes p g id made told last sum a b l d now W hW o h1 h2
  have H := Lib.hid h
  have hpl := h.pod.lt
  have hgl := h.br.lt
  clear h
  obtain ⟨s, ⟨i0, i1⟩, ⟨m0, m1⟩, ⟨t0, t1⟩, u0, u1⟩ := o
  go_enter Try.func56, Try.ntmps56
  go_wp2_with fail
  refine (A.out _ (rd_alloc H.out _)).mono ?_
  rintro e w1 ⟨rfl, hp1, ho1⟩
  have H1 := rd_at (rd_alloc H.out _) hp1 ho1
  have Z4 : Blk w1 w.heap.size #[.int .i64 0, .int .i64 0, .int .i64 0] 61 := Blk.grown (Blk.new w _ _) ho1 (by omega)
  have T1 : Two w w1 p g := (two_alloc w p g (.cells #[.int .i64 0, .int .i64 0, .int .i64 0] 61)).trans (Two.mk1 ho1)
  generalize hS : sum + (now - last) * (a + b) = S at *
  have HSum := Lib.hid (show sumAt last sum a b now = S from hS)
  have pb := prod_bd (x := now - last) (y := a + b) (by omega) (by omega) (by have := s.1; have := s.2.1; omega) (by have := s.1; have := s.2.1; omega)
  have hS0 : 0 ≤ S := by omega
  have hS1 : S ≤ (now - told) * 2000 := by
    have := Int.mul_le_mul_of_nonneg_left (show a + b ≤ 2000 from by have := s.1; have := s.2.1; omega) (show 0 ≤ now - last from by omega)
    omega
  have hS2 : S ≤ 9007199254740992 := by omega
  obtain ⟨⟨a0, a1⟩, ⟨b0, b1⟩, ⟨l0, l1⟩, d0, d1⟩ := s
  have e1 : IntKind.i64.wrap (now - made) = now - made := wrap_in (by omega) (by omega)
  have e2 : IntKind.i64.wrap ((a + b) * 1000) = (a + b) * 1000 := wrap_in (by omega) (by omega)
  have e3 : IntKind.i64.wrap (a + b) = a + b := wrap_in (by omega) (by omega)
  have x0 : w1.cell? ⟨p, 0, none⟩ = some (.int .i64 id) := Blk.cell H1.pod 0
  have x1 : w1.cell? ⟨p, 1, none⟩ = some (.pointer (some ⟨g, 0, none⟩)) := Blk.cell H1.pod 1
  have x2 : w1.cell? ⟨p, 2, none⟩ = some (.int .i64 made) := Blk.cell H1.pod 2
  have x4 : w1.cell? ⟨p, 4, none⟩ = some (.int .i64 told) := Blk.cell H1.pod 4
  have x5 : w1.cell? ⟨p, 5, none⟩ = some (.int .i64 S) := Blk.cell H1.pod 5
  have y2 : w1.cell? ⟨g, 2, none⟩ = some (.int .i64 a) := Blk.cell H1.br 2
  have y3 : w1.cell? ⟨g, 3, none⟩ = some (.int .i64 b) := Blk.cell H1.br 3
  have HH := Lib.hid H1
  have hp1' := H1.pod.lt
  have hg1' := H1.br.lt
  have hz1' := Z4.lt
  clear hS pb hp1 ho1 u0 u1 H1
  go_wp2
  have n0 := World.new_ne w1 _ x0
  have n1 := World.new_ne w1 _ x1
  have n2 := World.new_ne w1 _ x2
  have n3 := World.new_ne w1 _ y2
  have n4 := World.new_ne w1 _ y3
  go_region_held3 (fun w' => w'.cell? ⟨p, 0, none⟩ = some (.int .i64 id) ∧ w'.cell? ⟨p, 1, none⟩ = some (.pointer (some ⟨g, 0, none⟩)) ∧ w'.cell? ⟨p, 2, none⟩ = some (.int .i64 made) ∧ w'.cell? ⟨g, 2, none⟩ = some (.int .i64 a) ∧ w'.cell? ⟨g, 3, none⟩ = some (.int .i64 b)) (go_keep) (first | fail)
  have PW := rd_drew (rd_alloc HH.out (.cells #[.int .i64 id, .int .i64 (now - made), .int .i64 ((a + b) * 1000)] 61))
  have BW : Blk (w1.alloc (.cells #[.int .i64 id, .int .i64 (now - made), .int .i64 ((a + b) * 1000)] 61)).drew w1.heap.size #[.int .i64 id, .int .i64 (now - made), .int .i64 ((a + b) * 1000)] 61 := Blk.new w1 _ _
  have ZW : Blk (w1.alloc (.cells #[.int .i64 id, .int .i64 (now - made), .int .i64 ((a + b) * 1000)] 61)).drew w.heap.size #[.int .i64 0, .int .i64 0, .int .i64 0] 61 := Blk.alloc Z4 _
  have TW : Two w (w1.alloc (.cells #[.int .i64 id, .int .i64 (now - made), .int .i64 ((a + b) * 1000)] 61)).drew p g := T1.trans (two_drew (two_alloc w1 p g _))
  generalize (w1.alloc (.cells #[.int .i64 id, .int .i64 (now - made), .int .i64 ((a + b) * 1000)] 61)).drew = W at *
  have PP := Lib.hid PW
  have BB := Lib.hid BW
  have ZZ := Lib.hid ZW
  have x4 : W.cell? ⟨p, 4, none⟩ = some (.int .i64 told) := Blk.cell PW.pod 4
  have x5 : W.cell? ⟨p, 5, none⟩ = some (.int .i64 S) := Blk.cell PW.pod 5
  have b0' : W.cell? ⟨w1.heap.size, 2, none⟩ = some (.int .i64 ((a + b) * 1000)) := Blk.cell BW 2
  clear PW BW ZW x0 x1 x2 y2 y3 n0 n1 n2 n3 n4 HH Z4 T1
  have q2 : IntKind.i64.wrap (now - told) = now - told := wrap_in (by omega) (by omega)
  have q5 : ¬ now = told := by omega
  have q6 : ¬ now - told = 0 := by omega
  obtain ⟨Qv, hQ⟩ : ∃ n, n = S / (now - told) := ⟨_, rfl⟩
  obtain ⟨Rv, hR⟩ : ∃ n, n = S % (now - told) := ⟨_, rfl⟩
  obtain ⟨Tv, hT⟩ : ∃ n, n = Rv * 1000 / (now - told) := ⟨_, rfl⟩
  obtain ⟨Xv, hX⟩ : ∃ n, n = S * 1000 / (now - told) := ⟨_, rfl⟩
  have Q0 : 0 ≤ Qv := by rw [hQ]; exact Int.ediv_nonneg hS0 (by omega)
  have Q1 : Qv ≤ 2000 := by rw [hQ]; exact Int.ediv_le_of_le_mul (by omega) (by omega)
  have R0 : 0 ≤ Rv := by rw [hR]; exact Int.emod_nonneg _ (by omega)
  have R1 : Rv < now - told := by rw [hR]; exact Int.emod_lt_of_pos _ (by omega)
  have T0 : 0 ≤ Tv := by rw [hT]; exact Int.ediv_nonneg (by omega) (by omega)
  have T2 : Tv ≤ Rv * 1000 := by rw [hT]; exact Int.ediv_le_self _ (by omega)
  have X0 : Qv * 1000 + Tv = Xv := by
    have e : S * 1000 = Rv * 1000 + (now - told) * (Qv * 1000) := by
      have h := Int.emod_add_mul_ediv S (now - told)
      rw [← hQ, ← hR] at h
      rw [← Int.mul_assoc, ← Int.add_mul, h]
    rw [hX, e, Int.add_mul_ediv_left _ _ (by omega), ← hT]; omega
  have r1 : IntKind.i64.wrap (S.tdiv (now - told)) = Qv := by rw [Int.tdiv_eq_ediv_of_nonneg hS0, ← hQ]; exact wrap_in (by omega) (by omega)
  have r2 : IntKind.i64.wrap (Qv * 1000) = Qv * 1000 := wrap_in (by omega) (by omega)
  have r3 : S.tmod (now - told) = Rv := by rw [Int.tmod_eq_emod_of_nonneg hS0, hR]
  have r4 : IntKind.i64.wrap Rv = Rv := wrap_in (by omega) (by omega)
  have r5 : IntKind.i64.wrap (Rv * 1000) = Rv * 1000 := wrap_in (by omega) (by omega)
  have r6 : IntKind.i64.wrap ((Rv * 1000).tdiv (now - told)) = Tv := by rw [Int.tdiv_eq_ediv_of_nonneg (by omega), ← hT]; exact wrap_in (by omega) (by omega)
  have r7 : IntKind.i64.wrap (Qv * 1000 + Tv) = Xv := by rw [X0]; exact wrap_in (by omega) (by omega)
  have HX := Lib.hid hX
  clear hQ hR hT hX X0 T2
  go_wp2
  go_still_tail 18, (by kernel_rfl)
  change wpList _ _ _ _ _ W.drew
  have P2 := Lib.hid (rd_drew PP.out)
  have B2 := Lib.hid (show Blk W.drew w1.heap.size #[.int .i64 id, .int .i64 (now - made), .int .i64 ((a + b) * 1000)] 61 from BB.out)
  have Z2 := Lib.hid (show Blk W.drew w.heap.size #[.int .i64 0, .int .i64 0, .int .i64 0] 61 from ZZ.out)
  have T2 := two_drew TW
  clear x4 x5 b0' TW PP BB ZZ q2 q5 q6 r1 r2 r3 r4 r5 r6
  generalize W.drew = U at *
  have x4 : U.cell? ⟨p, 4, none⟩ = some (.int .i64 told) := Blk.cell P2.out.pod 4
  have x5 : U.cell? ⟨p, 5, none⟩ = some (.int .i64 S) := Blk.cell P2.out.pod 5
  have xf4 := Blk.free P2.out.pod 4
  have xf5 := Blk.free P2.out.pod 5
  have xb0 : U.cell? ⟨w1.heap.size, 0, none⟩ = some (.int .i64 id) := Blk.cell B2.out 0
  have xb1 : U.cell? ⟨w1.heap.size, 1, none⟩ = some (.int .i64 (now - made)) := Blk.cell B2.out 1
  have xb2 : U.cell? ⟨w1.heap.size, 2, none⟩ = some (.int .i64 ((a + b) * 1000)) := Blk.cell B2.out 2
  have xbf := Blk.free B2.out 2
  have z0 : U.cell? ⟨w.heap.size, 0, none⟩ = some (.int .i64 0) := Blk.cell Z2.out 0
  have z1 : U.cell? ⟨w.heap.size, 1, none⟩ = some (.int .i64 0) := Blk.cell Z2.out 1
  have z2 : U.cell? ⟨w.heap.size, 2, none⟩ = some (.int .i64 0) := Blk.cell Z2.out 2
  have zf0 := Blk.free Z2.out 0
  have zf1 := Blk.free Z2.out 1
  have zf2 := Blk.free Z2.out 2
  have m1' : ¬ w1.heap.size = p := by omega
  have m2' : ¬ p = w1.heap.size := by omega
  have m3' : ¬ w.heap.size = p := by omega
  have m4' : ¬ p = w.heap.size := by omega
  have m5' : ¬ w1.heap.size = w.heap.size := by omega
  have m6' : ¬ w.heap.size = w1.heap.size := by omega
  go_wp2_with fail
  rw [HSum.out, ← HX.out]
  refine bodyPost_ret (v := .agg #[.int .i64 id, .int .i64 (now - made), .int .i64 Xv]) ?_ rfl ⟨rfl, ?_, ?_⟩
  · simp [results, Try.results56, go_sem, z0, z1, z2]
  · exact rd_other (rd_other (rd_other (rd_told (rd_sum (rd_other P2.out m1' (by omega)))) m3' (by omega)) m3' (by omega)) m3' (by omega)
  · exact two_setnew (two_setnew (two_setnew (two_setp (two_setp (two_setnew T2 (by omega) _ _) _ _) _ _) (Nat.le_refl _) _ _) (Nat.le_refl _) _ _) (Nat.le_refl _) _ _

set_option maxHeartbeats 2000000 in
theorem stat_same (p g : Nat) (id made told last sum a b l d now : Int) (w : World) (h : Rd w p g id made told last sum a b l d) (o : Ok id made told last sum a b l d) (h1 : last ≤ now) (h2 : now ≤ 1099511627776) (hlt : ¬ told < now) :
    Calls Try.prog 56 #[.pointer (some ⟨p, 0, none⟩), .int .i64 now] w (Post w p g (.agg #[.int .i64 id, .int .i64 (now - made), .int .i64 ((a + b) * 1000)]) id made now now 0 a b l d) := by
  have A := Lib.hid fun W hW => on_yes p g id made told last sum a b l d now W hW o h1 h2
  have H := Lib.hid h
  have hpl := h.pod.lt
  have hgl := h.br.lt
  clear h
  obtain ⟨s, ⟨i0, i1⟩, ⟨m0, m1⟩, ⟨t0, t1⟩, u0, u1⟩ := o
  go_enter Try.func56, Try.ntmps56
  go_wp2_with fail
  refine (A.out _ (rd_alloc H.out _)).mono ?_
  rintro e w1 ⟨rfl, hp1, ho1⟩
  have H1 := rd_at (rd_alloc H.out _) hp1 ho1
  have Z4 : Blk w1 w.heap.size #[.int .i64 0, .int .i64 0, .int .i64 0] 61 := Blk.grown (Blk.new w _ _) ho1 (by omega)
  have T1 : Two w w1 p g := (two_alloc w p g (.cells #[.int .i64 0, .int .i64 0, .int .i64 0] 61)).trans (Two.mk1 ho1)
  generalize hS : sum + (now - last) * (a + b) = S at *
  have HSum := Lib.hid (show sumAt last sum a b now = S from hS)
  have pb := prod_bd (x := now - last) (y := a + b) (by omega) (by omega) (by have := s.1; have := s.2.1; omega) (by have := s.1; have := s.2.1; omega)
  have hS0 : 0 ≤ S := by omega
  have hS1 : S ≤ (now - told) * 2000 := by
    have := Int.mul_le_mul_of_nonneg_left (show a + b ≤ 2000 from by have := s.1; have := s.2.1; omega) (show 0 ≤ now - last from by omega)
    omega
  have hS2 : S ≤ 9007199254740992 := by omega
  obtain ⟨⟨a0, a1⟩, ⟨b0, b1⟩, ⟨l0, l1⟩, d0, d1⟩ := s
  have e1 : IntKind.i64.wrap (now - made) = now - made := wrap_in (by omega) (by omega)
  have e2 : IntKind.i64.wrap ((a + b) * 1000) = (a + b) * 1000 := wrap_in (by omega) (by omega)
  have e3 : IntKind.i64.wrap (a + b) = a + b := wrap_in (by omega) (by omega)
  have x0 : w1.cell? ⟨p, 0, none⟩ = some (.int .i64 id) := Blk.cell H1.pod 0
  have x1 : w1.cell? ⟨p, 1, none⟩ = some (.pointer (some ⟨g, 0, none⟩)) := Blk.cell H1.pod 1
  have x2 : w1.cell? ⟨p, 2, none⟩ = some (.int .i64 made) := Blk.cell H1.pod 2
  have x4 : w1.cell? ⟨p, 4, none⟩ = some (.int .i64 told) := Blk.cell H1.pod 4
  have x5 : w1.cell? ⟨p, 5, none⟩ = some (.int .i64 S) := Blk.cell H1.pod 5
  have y2 : w1.cell? ⟨g, 2, none⟩ = some (.int .i64 a) := Blk.cell H1.br 2
  have y3 : w1.cell? ⟨g, 3, none⟩ = some (.int .i64 b) := Blk.cell H1.br 3
  have HH := Lib.hid H1
  have hp1' := H1.pod.lt
  have hg1' := H1.br.lt
  have hz1' := Z4.lt
  clear hS pb hp1 ho1 u0 u1 H1
  go_wp2
  have n0 := World.new_ne w1 _ x0
  have n1 := World.new_ne w1 _ x1
  have n2 := World.new_ne w1 _ x2
  have n3 := World.new_ne w1 _ y2
  have n4 := World.new_ne w1 _ y3
  go_region_held3 (fun w' => w'.cell? ⟨p, 0, none⟩ = some (.int .i64 id) ∧ w'.cell? ⟨p, 1, none⟩ = some (.pointer (some ⟨g, 0, none⟩)) ∧ w'.cell? ⟨p, 2, none⟩ = some (.int .i64 made) ∧ w'.cell? ⟨g, 2, none⟩ = some (.int .i64 a) ∧ w'.cell? ⟨g, 3, none⟩ = some (.int .i64 b)) (go_keep) (first | fail)
  have PW := rd_drew (rd_alloc HH.out (.cells #[.int .i64 id, .int .i64 (now - made), .int .i64 ((a + b) * 1000)] 61))
  have BW : Blk (w1.alloc (.cells #[.int .i64 id, .int .i64 (now - made), .int .i64 ((a + b) * 1000)] 61)).drew w1.heap.size #[.int .i64 id, .int .i64 (now - made), .int .i64 ((a + b) * 1000)] 61 := Blk.new w1 _ _
  have ZW : Blk (w1.alloc (.cells #[.int .i64 id, .int .i64 (now - made), .int .i64 ((a + b) * 1000)] 61)).drew w.heap.size #[.int .i64 0, .int .i64 0, .int .i64 0] 61 := Blk.alloc Z4 _
  have TW : Two w (w1.alloc (.cells #[.int .i64 id, .int .i64 (now - made), .int .i64 ((a + b) * 1000)] 61)).drew p g := T1.trans (two_drew (two_alloc w1 p g _))
  generalize (w1.alloc (.cells #[.int .i64 id, .int .i64 (now - made), .int .i64 ((a + b) * 1000)] 61)).drew = W at *
  have PP := Lib.hid PW
  have BB := Lib.hid BW
  have ZZ := Lib.hid ZW
  have x4 : W.cell? ⟨p, 4, none⟩ = some (.int .i64 told) := Blk.cell PW.pod 4
  have x5 : W.cell? ⟨p, 5, none⟩ = some (.int .i64 S) := Blk.cell PW.pod 5
  have b0' : W.cell? ⟨w1.heap.size, 2, none⟩ = some (.int .i64 ((a + b) * 1000)) := Blk.cell BW 2
  clear PW BW ZW x0 x1 x2 y2 y3 n0 n1 n2 n3 n4 HH Z4 T1
  have P2 := PP
  have B2 := BB
  have Z2 := ZZ
  have T2 := TW
  clear x4 x5 b0' PP BB ZZ
  have x4 : W.cell? ⟨p, 4, none⟩ = some (.int .i64 told) := Blk.cell P2.out.pod 4
  have x5 : W.cell? ⟨p, 5, none⟩ = some (.int .i64 S) := Blk.cell P2.out.pod 5
  have xf4 := Blk.free P2.out.pod 4
  have xf5 := Blk.free P2.out.pod 5
  have xb0 : W.cell? ⟨w1.heap.size, 0, none⟩ = some (.int .i64 id) := Blk.cell B2.out 0
  have xb1 : W.cell? ⟨w1.heap.size, 1, none⟩ = some (.int .i64 (now - made)) := Blk.cell B2.out 1
  have xb2 : W.cell? ⟨w1.heap.size, 2, none⟩ = some (.int .i64 ((a + b) * 1000)) := Blk.cell B2.out 2
  have xbf := Blk.free B2.out 2
  have z0 : W.cell? ⟨w.heap.size, 0, none⟩ = some (.int .i64 0) := Blk.cell Z2.out 0
  have z1 : W.cell? ⟨w.heap.size, 1, none⟩ = some (.int .i64 0) := Blk.cell Z2.out 1
  have z2 : W.cell? ⟨w.heap.size, 2, none⟩ = some (.int .i64 0) := Blk.cell Z2.out 2
  have zf0 := Blk.free Z2.out 0
  have zf1 := Blk.free Z2.out 1
  have zf2 := Blk.free Z2.out 2
  have m1' : ¬ w1.heap.size = p := by omega
  have m2' : ¬ p = w1.heap.size := by omega
  have m3' : ¬ w.heap.size = p := by omega
  have m4' : ¬ p = w.heap.size := by omega
  have m5' : ¬ w1.heap.size = w.heap.size := by omega
  have m6' : ¬ w.heap.size = w1.heap.size := by omega
  go_wp2_with fail
  refine bodyPost_ret (v := .agg #[.int .i64 id, .int .i64 (now - made), .int .i64 ((a + b) * 1000)]) ?_ rfl ⟨rfl, ?_, ?_⟩
  · simp [results, Try.results56, go_sem, z0, z1, z2]
  · exact rd_other (rd_other (rd_other (rd_told (rd_sum P2.out)) m3' (by omega)) m3' (by omega)) m3' (by omega)
  · exact two_setnew (two_setnew (two_setnew (two_setp (two_setp T2 _ _) _ _) (Nat.le_refl _) _ _) (Nat.le_refl _) _ _) (Nat.le_refl _) _ _
end Go.Proofs.Ytnlfocmmnjgmpaa.E
