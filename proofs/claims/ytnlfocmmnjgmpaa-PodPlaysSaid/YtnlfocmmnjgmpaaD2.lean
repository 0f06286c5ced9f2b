/- What Stat tells of a pod. -/
import Derived.Test.YtnlfocmmnjgmpaaD
import Derived.Deep.RegionHeld3
import Derived.StillTailTactics
namespace Go.Proofs.Ytnlfocmmnjgmpaa.D2
open Go.RowKit Go.Proofs.Ytnlfocmmnjgmpaa.Fl Go.Proofs.Ytnlfocmmnjgmpaa.L Go.Proofs.Ytnlfocmmnjgmpaa.B Go.Proofs.Ytnlfocmmnjgmpaa.D

theorem pd_alloc {w : World} {p g : Nat} {id made told last sum a b l d : Int} (h : Pd w p g id made told last sum a b l d) (o : Obj) : Pd (w.alloc o) p g id made told last sum a b l d :=
  ⟨Blk.alloc h.pod o, Blk.alloc h.br o, h.ne⟩
theorem pd_drew {w : World} {p g : Nat} {id made told last sum a b l d : Int} (h : Pd w p g id made told last sum a b l d) : Pd w.drew p g id made told last sum a b l d := ⟨h.pod, h.br, h.ne⟩
theorem two_drew {w w' : World} {p g : Nat} (h : Two w w' p g) : Two w w'.drew p g := ⟨h.os, h.tape, h.output, h.size, h.block⟩
theorem pd_other {w : World} {p g k j : Nat} {id made told last sum a b l d : Int} {v : Value} (h : Pd w p g id made told last sum a b l d) (h1 : ¬ k = p) (h2 : ¬ k = g) : Pd (w.setCell ⟨k, j, none⟩ v) p g id made told last sum a b l d :=
  ⟨by have := h.pod; unfold Pb Blk at *; rw [Below.heap_setCell _ _ _ _ (fun e => h1 e.symm)]; exact this, Br.other h.br h2 v, h.ne⟩
theorem pd_sum {w : World} {p g : Nat} {id made told last sum a b l d s : Int} (h : Pd w p g id made told last sum a b l d) : Pd (w.setCell ⟨p, 5, none⟩ (.int .i64 s)) p g id made told last s a b l d :=
  ⟨Pb.sets h.pod _, Br.other h.br h.ne _, h.ne⟩
theorem pd_told {w : World} {p g : Nat} {id made told last sum a b l d s : Int} (h : Pd w p g id made told last sum a b l d) : Pd (w.setCell ⟨p, 3, none⟩ (.int .i64 s)) p g id made s last sum a b l d :=
  ⟨Pb.sett h.pod _, Br.other h.br h.ne _, h.ne⟩
theorem two_setp {w w' : World} {p g : Nat} (h : Two w w' p g) (j : Nat) (v : Value) : Two w (w'.setCell ⟨p, j, none⟩ v) p g :=
  ⟨h.os, h.tape, h.output, by have := h.size; simpa [World.setCell] using this, fun i hi h1 h2 => (Below.heap_setCell _ _ _ _ h1).trans (h.block i hi h1 h2)⟩
theorem two_alloc (w : World) (p g : Nat) (o : Obj) : Two w (w.alloc o) p g := ⟨rfl, rfl, rfl, by simp, fun k hk _ _ => Below.heap_alloc _ _ _ hk⟩
theorem two_setnew {w w' : World} {p g k : Nat} (h : Two w w' p g) (hk : w.heap.size ≤ k) (j : Nat) (v : Value) : Two w (w'.setCell ⟨k, j, none⟩ v) p g :=
  ⟨h.os, h.tape, h.output, by have := h.size; simpa [World.setCell] using this, fun i hi h1 h2 => (Below.heap_setCell _ _ _ _ (by show i ≠ k; omega)).trans (h.block i hi h1 h2)⟩

set_option maxHeartbeats 1000000 in
theorem stat_no (p g : Nat) (id made told last sum a b l d now : Int) (w : World) (h : Pd w p g id made told last sum a b l d) (hx : now < last ∨ 1099511627776 < now) : Calls Try.prog 51 #[.pointer (some ⟨p, 0, none⟩), .int .i64 now] w (Post w p g (.agg #[.int .i64 0, .int .i64 0, .int .i64 0]) id made told last sum a b l d) := by
  have H := Lib.hid h
  have X := Lib.hid hx
  clear h hx
  go_enter Try.func51, Try.ntmps51
  go_wp2_with fail
  refine (at_no p g id made told last sum now _ (Blk.alloc H.out.pod _) X.out).mono ?_
  rintro e w' ⟨rfl, rfl⟩
  go_wp2
  exact bodyPost_ret (v := .agg #[.int .i64 0, .int .i64 0, .int .i64 0]) (by simp [results, Try.results51, go_sem]) rfl ⟨rfl, pd_alloc H.out _, two_alloc _ _ _ _⟩

set_option maxHeartbeats 2000000 in
theorem stat_yes (p g : Nat) (id made told last sum a b l d now : Int) (w : World) (h : Pd w p g id made told last sum a b l d) (o : Ok id made told last sum a b l d) (h1 : last ≤ now) (h2 : now ≤ 1099511627776) (hlt : told < now) :
    Calls Try.prog 51 #[.pointer (some ⟨p, 0, none⟩), .int .i64 now] w (Post w p g (.agg #[.int .i64 id, .int .i64 (now - made), .int .i64 (sumAt last sum a b now * 1000 / (now - told))]) id made now now 0 a b l d) := by
  have A := Lib.hid fun W hW => at_yes p g id made told last sum a b l d now W hW o h1 h2
  have H := Lib.hid h
  have hpl := h.pod.lt
  have hgl := h.br.lt
  clear h
  obtain ⟨s, ⟨i0, i1⟩, ⟨m0, m1⟩, ⟨t0, t1⟩, u0, u1⟩ := o
  go_enter Try.func51, Try.ntmps51
  go_wp2_with fail
  refine (A.out _ (pd_alloc H.out _)).mono ?_
  rintro e w1 ⟨rfl, hp1, ho1⟩
  have H1 := Lib.hid (pd_at (pd_alloc H.out _) hp1 ho1)
  have Z4 : Blk w1 w.heap.size #[.int .i64 0, .int .i64 0, .int .i64 0] 61 := Blk.grown (Blk.new w _ _) ho1 (by omega)
  have z40 : w1.cell? ⟨w.heap.size, 0, none⟩ = some (.int .i64 0) := Blk.cell Z4 0
  have z41 : w1.cell? ⟨w.heap.size, 1, none⟩ = some (.int .i64 0) := Blk.cell Z4 1
  have z42 : w1.cell? ⟨w.heap.size, 2, none⟩ = some (.int .i64 0) := Blk.cell Z4 2
  have zf0 := Blk.free Z4 0
  have zf1 := Blk.free Z4 1
  have zf2 := Blk.free Z4 2
  have zlt := Z4.lt
  generalize hS : sum + (now - last) * (a + b) = S at *
  have HSum := Lib.hid (show sumAt last sum a b now = S from hS)
  have pb := prod_bd (x := now - last) (y := a + b) (by omega) (by omega) (by have := s.1; have := s.2.1; omega) (by have := s.1; have := s.2.1; omega)
  have hS0 : 0 ≤ S := by omega
  have hS1 : S ≤ 9007199254740992 := by omega
  have c0 : w1.cell? ⟨p, 0, none⟩ = some (.int .i64 id) := Blk.cell hp1 0
  have c2 : w1.cell? ⟨p, 2, none⟩ = some (.int .i64 made) := Blk.cell hp1 2
  have c3 : w1.cell? ⟨p, 3, none⟩ = some (.int .i64 told) := Blk.cell hp1 3
  have c5 : w1.cell? ⟨p, 5, none⟩ = some (.int .i64 S) := Blk.cell hp1 5
  have f3 := Blk.free hp1 3
  have f5 := Blk.free hp1 5
  have plt1 := hp1.lt
  have BT := Lib.hid fun (W : World) (hW : Pd W p g id made told now S a b l d) => both_any p g id made told now S a b l d W hW s
  obtain ⟨⟨a0, a1⟩, ⟨b0, b1⟩, ⟨l0, l1⟩, d0, d1⟩ := s
  have e1 : IntKind.i64.wrap (now - made) = now - made := wrap_in (by omega) (by omega)
  have e2 : IntKind.i64.wrap ((a + b) * 1000) = (a + b) * 1000 := wrap_in (by omega) (by omega)
  clear pb hS hp1 u0 u1
  rw [HSum.out]
  go_wp2
  have n0 := World.new_ne w1 _ c0
  have n2 := World.new_ne w1 _ c2
  go_region_held3 (fun w' => w'.cell? ⟨p, 0, none⟩ = some (.int .i64 id) ∧ w'.cell? ⟨p, 2, none⟩ = some (.int .i64 made)) (go_keep)
    (first | (go_at_call 62; refine (BT.out _ ?_).mono ?_; (first | exact pd_drew H1.out | exact pd_drew (pd_alloc H1.out _)); rintro e w' ⟨rfl, rfl⟩))
  all_goals
    have PW := pd_drew (pd_alloc H1.out (.cells #[.int .i64 id, .int .i64 (now - made), .int .i64 ((a + b) * 1000)] 61))
    have BW : Blk (w1.alloc (.cells #[.int .i64 id, .int .i64 (now - made), .int .i64 ((a + b) * 1000)] 61)).drew w1.heap.size #[.int .i64 id, .int .i64 (now - made), .int .i64 ((a + b) * 1000)] 61 := Blk.new w1 _ _
    have ZW : Blk (w1.alloc (.cells #[.int .i64 id, .int .i64 (now - made), .int .i64 ((a + b) * 1000)] 61)).drew w.heap.size #[.int .i64 0, .int .i64 0, .int .i64 0] 61 := Blk.alloc Z4 _
    have TW : Two w (w1.alloc (.cells #[.int .i64 id, .int .i64 (now - made), .int .i64 ((a + b) * 1000)] 61)).drew p g := by
      have t1 := (two_alloc w p g (.cells #[.int .i64 0, .int .i64 0, .int .i64 0] 61)).trans (Two.mk1 ho1)
      exact t1.trans (two_drew (two_alloc w1 p g _))
    generalize (w1.alloc (.cells #[.int .i64 id, .int .i64 (now - made), .int .i64 ((a + b) * 1000)] 61)).drew = W at *
    have PP := Lib.hid PW
    have BB := Lib.hid BW
    have ZZ := Lib.hid ZW
    have c3 : W.cell? ⟨p, 3, none⟩ = some (.int .i64 told) := Blk.cell PW.pod 3
    have c5 : W.cell? ⟨p, 5, none⟩ = some (.int .i64 S) := Blk.cell PW.pod 5
    have v0 : W.cell? ⟨w1.heap.size, 0, none⟩ = some (.int .i64 id) := Blk.cell BW 0
    have v1 : W.cell? ⟨w1.heap.size, 1, none⟩ = some (.int .i64 (now - made)) := Blk.cell BW 1
    have v2 : W.cell? ⟨w1.heap.size, 2, none⟩ = some (.int .i64 ((a + b) * 1000)) := Blk.cell BW 2
    have fv2 := Blk.free BW 2
    have q1 : IntKind.i64.wrap (S * 1000) = S * 1000 := wrap_in (by omega) (by omega)
    have q2 : IntKind.i64.wrap (now - told) = now - told := wrap_in (by omega) (by omega)
    have q3 : ((now - told) == 0) = false := beq_eq_false_iff_ne.2 (by omega)
    have q5 : ¬ now = told := by omega
    have q6 : ¬ now - told = 0 := by omega
    have q4 : IntKind.i64.wrap ((S * 1000).tdiv (now - told)) = S * 1000 / (now - told) := by
      rw [Int.tdiv_eq_ediv_of_nonneg (by omega)]
      have := Int.ediv_nonneg (a := S * 1000) (b := now - told) (by omega) (by omega)
      have := Int.ediv_le_self (a := S * 1000) (now - told) (by omega)
      exact wrap_in (by omega) (by omega)
    clear PW BW ZW c0 c2 n0 n2 z40 z41 z42 zf0 zf1 zf2 f3 f5 Z4
    go_wp2
    go_still_tail 13, (by kernel_rfl)
    change wpList _ _ _ _ _ W.drew
    have P2 := Lib.hid (pd_drew PP.out)
    have B2 := Lib.hid (show Blk W.drew w1.heap.size #[.int .i64 id, .int .i64 (now - made), .int .i64 ((a + b) * 1000)] 61 from BB.out)
    have Z2 := Lib.hid (show Blk W.drew w.heap.size #[.int .i64 0, .int .i64 0, .int .i64 0] 61 from ZZ.out)
    have T2 := two_drew TW
    have b0' : W.drew.cell? ⟨w1.heap.size, 2, none⟩ = some (.int .i64 ((a + b) * 1000)) := Blk.cell B2.out 2
    have b1' := Blk.free B2.out 2
    clear c3 c5 v0 v1 v2 fv2 TW PP BB ZZ q1 q2 q3 q4
    have x3 : W.drew.cell? ⟨p, 3, none⟩ = some (.int .i64 told) := Blk.cell P2.out.pod 3
    have x5 : W.drew.cell? ⟨p, 5, none⟩ = some (.int .i64 S) := Blk.cell P2.out.pod 5
    have xf3 := Blk.free P2.out.pod 3
    have xf5 := Blk.free P2.out.pod 5
    have y0 : W.drew.cell? ⟨w1.heap.size, 0, none⟩ = some (.int .i64 id) := Blk.cell B2.out 0
    have y1 : W.drew.cell? ⟨w1.heap.size, 1, none⟩ = some (.int .i64 (now - made)) := Blk.cell B2.out 1
    have z0 : W.drew.cell? ⟨w.heap.size, 0, none⟩ = some (.int .i64 0) := Blk.cell Z2.out 0
    have z1 : W.drew.cell? ⟨w.heap.size, 1, none⟩ = some (.int .i64 0) := Blk.cell Z2.out 1
    have z2 : W.drew.cell? ⟨w.heap.size, 2, none⟩ = some (.int .i64 0) := Blk.cell Z2.out 2
    have zf0 := Blk.free Z2.out 0
    have zf1 := Blk.free Z2.out 1
    have zf2 := Blk.free Z2.out 2
    have m1 : ¬ w1.heap.size = p := by omega
    have m2 : ¬ p = w1.heap.size := by omega
    have m3 : ¬ w.heap.size = p := by omega
    have m4 : ¬ p = w.heap.size := by omega
    have m5 : ¬ w1.heap.size = w.heap.size := by omega
    have m6 : ¬ w.heap.size = w1.heap.size := by omega
    generalize W.drew = U at *
    go_wp2_with fail
    rw [HSum.out]
    refine bodyPost_ret (v := .agg #[.int .i64 id, .int .i64 (now - made), .int .i64 (S * 1000 / (now - told))]) ?_ rfl ⟨rfl, ?_, ?_⟩
    · simp [results, Try.results51, go_sem, z0, z1, z2]
    · exact pd_other (pd_other (pd_other (pd_told (pd_sum (pd_other P2.out m1 (by omega))))  m3 (by omega)) m3 (by omega)) m3 (by omega)
    · exact two_setnew (two_setnew (two_setnew (two_setp (two_setp (two_setnew T2 (by omega) _ _) _ _) _ _) (Nat.le_refl _) _ _) (Nat.le_refl _) _ _) (Nat.le_refl _) _ _
set_option maxHeartbeats 2000000 in
theorem stat_same (p g : Nat) (id made told last sum a b l d now : Int) (w : World) (h : Pd w p g id made told last sum a b l d) (o : Ok id made told last sum a b l d) (h1 : last ≤ now) (h2 : now ≤ 1099511627776) (hlt : ¬ told < now) :
    Calls Try.prog 51 #[.pointer (some ⟨p, 0, none⟩), .int .i64 now] w (Post w p g (.agg #[.int .i64 id, .int .i64 (now - made), .int .i64 ((a + b) * 1000)]) id made now now 0 a b l d) := by
  have A := Lib.hid fun W hW => at_yes p g id made told last sum a b l d now W hW o h1 h2
  have H := Lib.hid h
  have hpl := h.pod.lt
  have hgl := h.br.lt
  clear h
  obtain ⟨s, ⟨i0, i1⟩, ⟨m0, m1⟩, ⟨t0, t1⟩, u0, u1⟩ := o
  go_enter Try.func51, Try.ntmps51
  go_wp2_with fail
  refine (A.out _ (pd_alloc H.out _)).mono ?_
  rintro e w1 ⟨rfl, hp1, ho1⟩
  have H1 := Lib.hid (pd_at (pd_alloc H.out _) hp1 ho1)
  have Z4 : Blk w1 w.heap.size #[.int .i64 0, .int .i64 0, .int .i64 0] 61 := Blk.grown (Blk.new w _ _) ho1 (by omega)
  have z40 : w1.cell? ⟨w.heap.size, 0, none⟩ = some (.int .i64 0) := Blk.cell Z4 0
  have z41 : w1.cell? ⟨w.heap.size, 1, none⟩ = some (.int .i64 0) := Blk.cell Z4 1
  have z42 : w1.cell? ⟨w.heap.size, 2, none⟩ = some (.int .i64 0) := Blk.cell Z4 2
  have zf0 := Blk.free Z4 0
  have zf1 := Blk.free Z4 1
  have zf2 := Blk.free Z4 2
  have zlt := Z4.lt
  generalize hS : sum + (now - last) * (a + b) = S at *
  have HSum := Lib.hid (show sumAt last sum a b now = S from hS)
  have pb := prod_bd (x := now - last) (y := a + b) (by omega) (by omega) (by have := s.1; have := s.2.1; omega) (by have := s.1; have := s.2.1; omega)
  have hS0 : 0 ≤ S := by omega
  have hS1 : S ≤ 9007199254740992 := by omega
  have c0 : w1.cell? ⟨p, 0, none⟩ = some (.int .i64 id) := Blk.cell hp1 0
  have c2 : w1.cell? ⟨p, 2, none⟩ = some (.int .i64 made) := Blk.cell hp1 2
  have c3 : w1.cell? ⟨p, 3, none⟩ = some (.int .i64 told) := Blk.cell hp1 3
  have c5 : w1.cell? ⟨p, 5, none⟩ = some (.int .i64 S) := Blk.cell hp1 5
  have f3 := Blk.free hp1 3
  have f5 := Blk.free hp1 5
  have plt1 := hp1.lt
  have BT := Lib.hid fun (W : World) (hW : Pd W p g id made told now S a b l d) => both_any p g id made told now S a b l d W hW s
  obtain ⟨⟨a0, a1⟩, ⟨b0, b1⟩, ⟨l0, l1⟩, d0, d1⟩ := s
  have e1 : IntKind.i64.wrap (now - made) = now - made := wrap_in (by omega) (by omega)
  have e2 : IntKind.i64.wrap ((a + b) * 1000) = (a + b) * 1000 := wrap_in (by omega) (by omega)
  clear pb hS hp1 u0 u1
  go_wp2
  have n0 := World.new_ne w1 _ c0
  have n2 := World.new_ne w1 _ c2
  go_region_held3 (fun w' => w'.cell? ⟨p, 0, none⟩ = some (.int .i64 id) ∧ w'.cell? ⟨p, 2, none⟩ = some (.int .i64 made)) (go_keep)
    (first | (go_at_call 62; refine (BT.out _ ?_).mono ?_; (first | exact pd_drew H1.out | exact pd_drew (pd_alloc H1.out _)); rintro e w' ⟨rfl, rfl⟩))
  all_goals
    have PW := pd_drew (pd_alloc H1.out (.cells #[.int .i64 id, .int .i64 (now - made), .int .i64 ((a + b) * 1000)] 61))
    have BW : Blk (w1.alloc (.cells #[.int .i64 id, .int .i64 (now - made), .int .i64 ((a + b) * 1000)] 61)).drew w1.heap.size #[.int .i64 id, .int .i64 (now - made), .int .i64 ((a + b) * 1000)] 61 := Blk.new w1 _ _
    have ZW : Blk (w1.alloc (.cells #[.int .i64 id, .int .i64 (now - made), .int .i64 ((a + b) * 1000)] 61)).drew w.heap.size #[.int .i64 0, .int .i64 0, .int .i64 0] 61 := Blk.alloc Z4 _
    have TW : Two w (w1.alloc (.cells #[.int .i64 id, .int .i64 (now - made), .int .i64 ((a + b) * 1000)] 61)).drew p g := by
      have t1 := (two_alloc w p g (.cells #[.int .i64 0, .int .i64 0, .int .i64 0] 61)).trans (Two.mk1 ho1)
      exact t1.trans (two_drew (two_alloc w1 p g _))
    generalize (w1.alloc (.cells #[.int .i64 id, .int .i64 (now - made), .int .i64 ((a + b) * 1000)] 61)).drew = W at *
    have PP := Lib.hid PW
    have BB := Lib.hid BW
    have ZZ := Lib.hid ZW
    have P2 := PP
    have B2 := BB
    have Z2 := ZZ
    have T2 := TW
    clear PW BW ZW c0 c2 c3 c5 n0 n2 z40 z41 z42 zf0 zf1 zf2 f3 f5 Z4
    have b0' : W.cell? ⟨w1.heap.size, 2, none⟩ = some (.int .i64 ((a + b) * 1000)) := Blk.cell B2.out 2
    have x3 : W.cell? ⟨p, 3, none⟩ = some (.int .i64 told) := Blk.cell P2.out.pod 3
    have x5 : W.cell? ⟨p, 5, none⟩ = some (.int .i64 S) := Blk.cell P2.out.pod 5
    have xf3 := Blk.free P2.out.pod 3
    have xf5 := Blk.free P2.out.pod 5
    have y0 : W.cell? ⟨w1.heap.size, 0, none⟩ = some (.int .i64 id) := Blk.cell B2.out 0
    have y1 : W.cell? ⟨w1.heap.size, 1, none⟩ = some (.int .i64 (now - made)) := Blk.cell B2.out 1
    have z0 : W.cell? ⟨w.heap.size, 0, none⟩ = some (.int .i64 0) := Blk.cell Z2.out 0
    have z1 : W.cell? ⟨w.heap.size, 1, none⟩ = some (.int .i64 0) := Blk.cell Z2.out 1
    have z2 : W.cell? ⟨w.heap.size, 2, none⟩ = some (.int .i64 0) := Blk.cell Z2.out 2
    have zf0 := Blk.free Z2.out 0
    have zf1 := Blk.free Z2.out 1
    have zf2 := Blk.free Z2.out 2
    have m1 : ¬ w1.heap.size = p := by omega
    have m2 : ¬ p = w1.heap.size := by omega
    have m3 : ¬ w.heap.size = p := by omega
    have m4 : ¬ p = w.heap.size := by omega
    have m5 : ¬ w1.heap.size = w.heap.size := by omega
    have m6 : ¬ w.heap.size = w1.heap.size := by omega
    go_wp2_with fail
    refine bodyPost_ret (v := .agg #[.int .i64 id, .int .i64 (now - made), .int .i64 ((a + b) * 1000)]) ?_ rfl ⟨rfl, ?_, ?_⟩
    · simp [results, Try.results51, go_sem, z0, z1, z2]
    · exact pd_other (pd_other (pd_other (pd_told (pd_sum P2.out)) m3 (by omega)) m3 (by omega)) m3 (by omega)
    · exact two_setnew (two_setnew (two_setnew (two_setp (two_setp T2 _ _) _ _) (Nat.le_refl _) _ _) (Nat.le_refl _) _ _) (Nat.le_refl _) _ _
end Go.Proofs.Ytnlfocmmnjgmpaa.D2
