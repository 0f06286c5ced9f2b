/- The reference's pod: Enter, Leave, NewRunner, Stat. -/
import Derived.Test.YtnlfocmmnjgmpaaE
namespace Go.Proofs.Ytnlfocmmnjgmpaa.E
open Go.RowKit Go.Proofs.Ytnlfocmmnjgmpaa.Fl Go.Proofs.Ytnlfocmmnjgmpaa.L Go.Proofs.Ytnlfocmmnjgmpaa.B Go.Proofs.Ytnlfocmmnjgmpaa.D Go.Proofs.Ytnlfocmmnjgmpaa.D2
open Go.Proofs.Ytnlfocmmnjgmpaa.R (Rb)

set_option maxHeartbeats 1000000 in
theorem enter_no (p g : Nat) (id made told last sum a b l d now : Int) (w : World) (h : Rd w p g id made told last sum a b l d) (hx : now < last ∨ 1099511627776 < now) : Calls Try.prog 54 #[.pointer (some ⟨p, 0, none⟩), .int .i64 now] w (Post w p g (.tuple #[.bool false, .int .i64 1]) id made told last sum a b l d) := by
  have H := Lib.hid h
  have X := Lib.hid hx
  clear h hx
  go_enter Try.func54, Try.ntmps54
  go_wp2_with (go_at_call 63; refine (on_no p g id made told last sum now _ H.out.pod X.out).mono ?_; rintro e w' ⟨rfl, rfl⟩)
  go_ret2
  exact ⟨rfl, H.out, Two.refl _ _ _⟩
set_option maxHeartbeats 1000000 in
theorem leave_no (p g : Nat) (id made told last sum a b l d now : Int) (w : World) (h : Rd w p g id made told last sum a b l d) (hx : now < last ∨ 1099511627776 < now) : Calls Try.prog 55 #[.pointer (some ⟨p, 0, none⟩), .int .i64 now] w (Post w p g (.tuple #[.bool false, .int .i64 1]) id made told last sum a b l d) := by
  have H := Lib.hid h
  have X := Lib.hid hx
  clear h hx
  go_enter Try.func55, Try.ntmps55
  go_wp2_with (go_at_call 63; refine (on_no p g id made told last sum now _ H.out.pod X.out).mono ?_; rintro e w' ⟨rfl, rfl⟩)
  go_ret2
  exact ⟨rfl, H.out, Two.refl _ _ _⟩

set_option maxHeartbeats 1000000 in
theorem enter_yes (p g : Nat) (id made told last sum a b l d now : Int) (w : World) (h : Rd w p g id made told last sum a b l d) (o : Ok id made told last sum a b l d) (h1 : last ≤ now) (h2 : now ≤ 1099511627776) (r : Bool) (c : Int) (a' b' : Int)
    (hE : ∀ W, Rb W g a b l d → Calls Try.prog 39 #[.pointer (some ⟨g, 0, none⟩)] W (R.Post W g (.tuple #[.bool r, .int .i64 c]) a' b' l d)) :
    Calls Try.prog 54 #[.pointer (some ⟨p, 0, none⟩), .int .i64 now] w (Post w p g (.tuple #[.bool r, .int .i64 c]) id made told now (sumAt last sum a b now) a' b' l d) := by
  have A := Lib.hid (on_yes p g id made told last sum a b l d now w h o h1 h2)
  have E := Lib.hid hE
  have H := Lib.hid h
  clear h o hE
  go_enter Try.func54, Try.ntmps54
  go_wp2_with fail
  refine A.out.mono ?_
  rintro e w1 ⟨rfl, hp1, ho1⟩
  have c1 : w1.cell? ⟨p, 1, none⟩ = some (.pointer (some ⟨g, 0, none⟩)) := Blk.cell hp1 1
  have H1 := rd_at H.out hp1 ho1
  go_wp2_with fail
  refine (E.out _ H1.br).mono ?_
  rintro e w2 ⟨rfl, hb2, ho2⟩
  go_wp2
  go_ret2
  exact ⟨rfl, rd_br H1 hb2 ho2, (Two.mk1 ho1).trans (Two.mk2 ho2)⟩
set_option maxHeartbeats 1000000 in
theorem leave_yes (p g : Nat) (id made told last sum a b l d now : Int) (w : World) (h : Rd w p g id made told last sum a b l d) (o : Ok id made told last sum a b l d) (h1 : last ≤ now) (h2 : now ≤ 1099511627776) (r : Bool) (c : Int) (a' b' : Int)
    (hE : ∀ W, Rb W g a b l d → Calls Try.prog 41 #[.pointer (some ⟨g, 0, none⟩)] W (R.Post W g (.tuple #[.bool r, .int .i64 c]) a' b' l d)) :
    Calls Try.prog 55 #[.pointer (some ⟨p, 0, none⟩), .int .i64 now] w (Post w p g (.tuple #[.bool r, .int .i64 c]) id made told now (sumAt last sum a b now) a' b' l d) := by
  have A := Lib.hid (on_yes p g id made told last sum a b l d now w h o h1 h2)
  have E := Lib.hid hE
  have H := Lib.hid h
  clear h o hE
  go_enter Try.func55, Try.ntmps55
  go_wp2_with fail
  refine A.out.mono ?_
  rintro e w1 ⟨rfl, hp1, ho1⟩
  have c1 : w1.cell? ⟨p, 1, none⟩ = some (.pointer (some ⟨g, 0, none⟩)) := Blk.cell hp1 1
  have H1 := rd_at H.out hp1 ho1
  go_wp2_with fail
  refine (E.out _ H1.br).mono ?_
  rintro e w2 ⟨rfl, hb2, ho2⟩
  go_wp2
  go_ret2
  exact ⟨rfl, rd_br H1 hb2 ho2, (Two.mk1 ho1).trans (Two.mk2 ho2)⟩

set_option maxHeartbeats 1000000 in
theorem new_yes (id l d now : Int) (w : World) (h : MayP id l d now) : Calls Try.prog 53 #[.int .i64 id, .int .i64 l, .int .i64 d, .int .i64 now] w fun e w' => e = .returned (.pointer (some ⟨w.heap.size + 1, 0, none⟩)) ∧ Rd w' (w.heap.size + 1) w.heap.size id now now now 0 0 0 l d ∧ Below w.heap.size w w' ∧ w'.heap.size = w.heap.size + 2 := by
  obtain ⟨hm, i0, n0, n1⟩ := h
  have k1 : decide (id < 0) = false := decide_eq_false (by omega)
  have k2 : decide (now < 0) = false := decide_eq_false (by omega)
  have k3 : decide (1099511627776 < now) = false := decide_eq_false (by omega)
  go_enter Try.func53, Try.ntmps53
  go_wp2_with fail
  refine (R.new_yes l d _ hm).mono ?_
  rintro e w0 ⟨rfl, h0, hw⟩
  have hb0 : Below w.heap.size w w0 := by rw [hw]; exact (Below.refl _ _).alloc (Nat.le_refl _) _
  have hs0 : w0.heap.size = w.heap.size + 1 := by rw [hw]; simp
  have HS := Lib.hid hs0
  clear hw hs0
  go_wp2
  go_ret
  refine ⟨by rw [HS.out]; rfl, ⟨?_, Blk.alloc h0 _, by omega⟩, hb0.alloc (by have := HS.out; omega) _, by have := HS.out; simp; omega⟩
  have := Blk.new w0 #[.int .i64 id, .pointer (some ⟨w.heap.size, 0, none⟩), .int .i64 now, .int .i64 now, .int .i64 now, .int .i64 0] 67
  rw [HS.out] at this
  exact this

set_option maxHeartbeats 1000000 in
theorem new_no (id l d now : Int) (w : World) (h : ¬ MayP id l d now) : Calls Try.prog 53 #[.int .i64 id, .int .i64 l, .int .i64 d, .int .i64 now] w fun e w' => e = .returned (.pointer none) ∧ Below w.heap.size w w' := by
  by_cases hm : May l d
  · have h' : id < 0 ∨ (0 ≤ id ∧ now < 0) ∨ (0 ≤ id ∧ 0 ≤ now ∧ 1099511627776 < now) := by
      unfold MayP at h
      have : ¬ (0 ≤ id ∧ 0 ≤ now ∧ now ≤ 1099511627776) := fun k => h ⟨hm, k⟩
      omega
    have HM := Lib.hid hm
    clear h hm
    rcases h' with h1 | ⟨h1, h2⟩ | ⟨h1, h2, h3⟩
    all_goals
      go_enter Try.func53, Try.ntmps53
      go_wp2_with fail
      refine (R.new_yes l d _ HM.out).mono ?_
      rintro e w0 ⟨rfl, h0, hw⟩
      have hb0 : Below w.heap.size w w0 := by rw [hw]; exact (Below.refl _ _).alloc (Nat.le_refl _) _
      clear hw h0
      go_wp2
      go_ret
      exact ⟨rfl, hb0⟩
  · have HM := Lib.hid hm
    clear h hm
    go_enter Try.func53, Try.ntmps53
    go_wp2_with fail
    refine (R.new_no l d _ HM.out).mono ?_
    rintro e w0 ⟨rfl, rfl⟩
    go_wp2
    go_ret
    exact ⟨rfl, Below.refl _ _⟩

set_option maxHeartbeats 1000000 in
theorem stat_no (p g : Nat) (id made told last sum a b l d now : Int) (w : World) (h : Rd w p g id made told last sum a b l d) (hx : now < last ∨ 1099511627776 < now) : Calls Try.prog 56 #[.pointer (some ⟨p, 0, none⟩), .int .i64 now] w (Post w p g (.agg #[.int .i64 0, .int .i64 0, .int .i64 0]) id made told last sum a b l d) := by
  have H := Lib.hid h
  have X := Lib.hid hx
  clear h hx
  go_enter Try.func56, Try.ntmps56
  go_wp2_with fail
  refine (on_no p g id made told last sum now _ (Blk.alloc H.out.pod _) X.out).mono ?_
  rintro e w' ⟨rfl, rfl⟩
  go_wp2
  exact bodyPost_ret (v := .agg #[.int .i64 0, .int .i64 0, .int .i64 0]) (by simp [results, Try.results56, go_sem]) rfl ⟨rfl, rd_alloc H.out _, two_alloc _ _ _ _⟩
end Go.Proofs.Ytnlfocmmnjgmpaa.E
