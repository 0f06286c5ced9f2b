/- What the methods of package pod do to a pod. -/
import Derived.Test.YtnlfocmmnjgmpaaB
import Derived.RegionTactic
import Derived.ChangeAlike
import Derived.Deep.RegionWith
namespace Go.Proofs.Ytnlfocmmnjgmpaa.D
open Go.RowKit Go.Proofs.Ytnlfocmmnjgmpaa.Fl Go.Proofs.Ytnlfocmmnjgmpaa.L Go.Proofs.Ytnlfocmmnjgmpaa.B

/-- The pod's own block. -/
def Pb (w : World) (p g : Nat) (id made told last sum : Int) : Prop := Blk w p #[.int .i64 id, .pointer (some ⟨g, 0, none⟩), .int .i64 made, .int .i64 told, .int .i64 last, .int .i64 sum] 77
/-- A pod: its block and its breaker's. -/
structure Pd (w : World) (p g : Nat) (id made told last sum a b l d : Int) : Prop where
  pod : Pb w p g id made told last sum
  br : Br w g a b l d
  ne : p ≠ g

theorem Pb.sets {w : World} {p g : Nat} {id made told last sum : Int} (h : Pb w p g id made told last sum) (s : Int) : Pb (w.setCell ⟨p, 5, none⟩ (.int .i64 s)) p g id made told last s := Blk.set h 5 _
theorem Pb.setl {w : World} {p g : Nat} {id made told last sum : Int} (h : Pb w p g id made told last sum) (s : Int) : Pb (w.setCell ⟨p, 4, none⟩ (.int .i64 s)) p g id made told s sum := Blk.set h 4 _
theorem Pb.sett {w : World} {p g : Nat} {id made told last sum : Int} (h : Pb w p g id made told last sum) (s : Int) : Pb (w.setCell ⟨p, 3, none⟩ (.int .i64 s)) p g id made s last sum := Blk.set h 3 _
theorem Pb.drewN {w : World} {p g : Nat} {id made told last sum : Int} (h : Pb w p g id made told last sum) (n : Nat) : Pb (w.drewN n) p g id made told last sum := h
theorem Br.other {w : World} {p g j : Nat} {a b l d : Int} (h : Br w g a b l d) (hn : p ≠ g) (v : Value) : Br (w.setCell ⟨p, j, none⟩ v) g a b l d := by
  unfold Br Blk at *
  rw [Below.heap_setCell _ _ _ _ (fun e => hn e.symm)]; exact h

theorem wrap_in {n : Int} (h0 : -9223372036854775808 ≤ n) (h1 : n ≤ 9223372036854775807) : IntKind.i64.wrap n = n := by rw [IntKind.wrap_i64]; omega
theorem prod_bd {x y : Int} (x0 : 0 ≤ x) (x1 : x ≤ 1099511627776) (y0 : 0 ≤ y) (y1 : y ≤ 2000) : 0 ≤ x * y ∧ x * y ≤ 2199023255552000 := by
  refine ⟨Int.mul_nonneg x0 y0, ?_⟩
  have h1 : x * y ≤ 1099511627776 * y := Int.mul_le_mul_of_nonneg_right x1 y0
  omega

/-- The numbers of a pod. -/
def Ok (id made told last sum a b l d : Int) : Prop := St a b l d ∧ (0 ≤ id ∧ id ≤ 9223372036854775807) ∧ (0 ≤ made ∧ made ≤ told) ∧ (told ≤ last ∧ last ≤ 1099511627776) ∧ (0 ≤ sum ∧ sum ≤ (last - told) * 2000)

set_option maxHeartbeats 400000 in
theorem both_any (p g : Nat) (id made told last sum a b l d : Int) (w : World) (h : Pd w p g id made told last sum a b l d) (s : St a b l d) : Calls Try.prog 62 #[.pointer (some ⟨p, 0, none⟩)] w fun e w' => e = .returned (.int .i64 (a + b)) ∧ w = w' := by
  obtain ⟨⟨a0, a1⟩, ⟨b0, b1⟩, ⟨l0, l1⟩, d0, d1⟩ := s
  have c1 : w.cell? ⟨p, 1, none⟩ = some (.pointer (some ⟨g, 0, none⟩)) := Blk.cell h.pod 1
  have ia : In a := ⟨by omega, by omega⟩
  have ib : In b := ⟨by omega, by omega⟩
  have hb := Lib.hid h.br
  clear h
  go_enter Try.func62, Try.ntmps62
  go_wp2_with (first | (go_at_call 44; refine (load_any _ _ _ _ _ _ hb.out).mono ?_; rintro e w' ⟨rfl, rfl⟩) | (go_at_call 23; refine (busy_in a b _ ia).mono ?_; rintro e w' ⟨rfl, rfl⟩) | (go_at_call 24; refine (waiting_in a b _ ib).mono ?_; rintro e w' ⟨rfl, rfl⟩))
  go_ret
  exact ⟨rfl, rfl⟩

theorem nil_at (now : Int) (w : World) : Calls Try.prog 61 #[.pointer none, .int .i64 now] w fun e w' => e = .returned (.int .i64 8) ∧ w = w' := by
  go_enter Try.func61, Try.ntmps61
  go_wp2
  go_ret
  exact ⟨rfl, rfl⟩

set_option maxHeartbeats 400000 in
theorem at_no (p g : Nat) (id made told last sum now : Int) (w : World) (h : Pb w p g id made told last sum) (hx : now < last ∨ 1099511627776 < now) : Calls Try.prog 61 #[.pointer (some ⟨p, 0, none⟩), .int .i64 now] w fun e w' => e = .returned (.int .i64 1) ∧ w = w' := by
  have c4 : w.cell? ⟨p, 4, none⟩ = some (.int .i64 last) := Blk.cell h 4
  clear h
  have hx' : now < last ∨ (last ≤ now ∧ 1099511627776 < now) := by omega
  clear hx
  rcases hx' with h1 | ⟨h1, h2⟩
  · have k1 : decide (now < last) = true := decide_eq_true h1
    go_enter Try.func61, Try.ntmps61
    go_wp2
    go_ret
    exact ⟨rfl, rfl⟩
  · have k1 : decide (now < last) = false := decide_eq_false (by omega)
    have k2 : decide (1099511627776 < now) = true := decide_eq_true h2
    go_enter Try.func61, Try.ntmps61
    go_wp2
    go_ret
    exact ⟨rfl, rfl⟩

/-- Of what was there but the pod's block p nothing has turned; new blocks may be there. -/
abbrev Only (w w' : World) (p : Nat) : Prop := w.grownBy w' (some p)

set_option maxHeartbeats 1000000 in
theorem at_yes (p g : Nat) (id made told last sum a b l d now : Int) (w : World) (h : Pd w p g id made told last sum a b l d) (o : Ok id made told last sum a b l d) (h1 : last ≤ now) (h2 : now ≤ 1099511627776) :
    Calls Try.prog 61 #[.pointer (some ⟨p, 0, none⟩), .int .i64 now] w fun e w' => e = .returned (.int .i64 0) ∧ Pb w' p g id made told now (sum + (now - last) * (a + b)) ∧ Only w w' p := by
  obtain ⟨s, ⟨i0, i1⟩, ⟨m0, m1⟩, ⟨t0, t1⟩, u0, u1⟩ := o
  have BT := Lib.hid fun (W : World) (hW : W.heap = w.heap) => both_any p g id made told last sum a b l d W ⟨by unfold Pb Blk; rw [hW]; exact h.pod, by unfold Br Blk; rw [hW]; exact h.br, h.ne⟩ s
  obtain ⟨⟨a0, a1⟩, ⟨b0, b1⟩, ⟨l0, l1⟩, d0, d1⟩ := s
  have c4 : w.cell? ⟨p, 4, none⟩ = some (.int .i64 last) := Blk.cell h.pod 4
  have c5 : w.cell? ⟨p, 5, none⟩ = some (.int .i64 sum) := Blk.cell h.pod 5
  have f4 := Blk.free h.pod 4
  have f5 := Blk.free h.pod 5
  have H := Lib.hid h.pod
  clear h
  have k1 : decide (now < last) = false := decide_eq_false (by omega)
  have k2 : decide (1099511627776 < now) = false := decide_eq_false (by omega)
  have pb := prod_bd (x := now - last) (y := a + b) (by omega) (by omega) (by omega) (by omega)
  have HV : Hid (wrap64 (sum + wrap64 ((now - last) * (a + b))) = sum + (now - last) * (a + b)) := by
    show _ = _
    obtain ⟨pb0, pb1⟩ := pb
    unfold wrap64
    omega
  clear pb
  go_enter Try.func61, Try.ntmps61
  go_wp2
  go_region_with (go_at_call 62; refine (BT.out _ (by rfl)).mono ?_; rintro e w' ⟨rfl, rfl⟩)
  all_goals
    go_wp2
    go_ret
    refine ⟨rfl, ?_, grown_drew (grown_set (grown_set (grown_refl _ _) 5 _) 4 _)⟩
    rw [HV.out]
    exact Pb.setl (Pb.sets H.out _) _

/-- What 'at' adds. -/
def sumAt (last sum a b now : Int) : Int := sum + (now - last) * (a + b)

theorem pd_at {w w' : World} {p g : Nat} {id made told last sum a b l d now s : Int} (h : Pd w p g id made told last sum a b l d) (hp : Pb w' p g id made told now s) (ho : Only w w' p) : Pd w' p g id made told now s a b l d :=
  ⟨hp, by unfold Br; exact Blk.grown h.br ho (fun e => h.ne e.symm), h.ne⟩
theorem pd_br {w w' : World} {p g : Nat} {id made told last sum a b l d a' b' l' d' : Int} (h : Pd w p g id made told last sum a b l d) (hb : Br w' g a' b' l' d') (ho : w.grownBy w' (some g)) : Pd w' p g id made told last sum a' b' l' d' :=
  ⟨by unfold Pb; exact Blk.grown h.pod ho h.ne, hb, h.ne⟩

/-- Of what was there but the two blocks nothing has turned. -/
structure Two (w w' : World) (p g : Nat) : Prop where
  os : w'.os = w.os
  tape : w'.tape = w.tape
  output : w'.output = w.output
  size : w.heap.size ≤ w'.heap.size
  block : ∀ k, k < w.heap.size → k ≠ p → k ≠ g → w'.heap[k]? = w.heap[k]?
theorem Two.mk1 {w w' : World} {p g : Nat} (h : w.grownBy w' (some p)) : Two w w' p g := ⟨h.os, h.tape, h.output, h.size, fun k hk h1 _ => h.block k hk (by simpa using h1)⟩
theorem Two.mk2 {w w' : World} {p g : Nat} (h : w.grownBy w' (some g)) : Two w w' p g := ⟨h.os, h.tape, h.output, h.size, fun k hk _ h1 => h.block k hk (by simpa using h1)⟩
theorem Two.refl (w : World) (p g : Nat) : Two w w p g := ⟨rfl, rfl, rfl, Nat.le_refl _, fun _ _ _ _ => rfl⟩
theorem Two.trans {w w' w'' : World} {p g : Nat} (h : Two w w' p g) (k : Two w' w'' p g) : Two w w'' p g :=
  ⟨k.os.trans h.os, k.tape.trans h.tape, k.output.trans h.output, Nat.le_trans h.size k.size, fun i hi h1 h2 => (k.block i (Nat.lt_of_lt_of_le hi h.size) h1 h2).trans (h.block i hi h1 h2)⟩
theorem Two.below {w0 w w' : World} {p g B : Nat} (h : Below B w0 w) (k : Two w w' p g) (hp : B ≤ p) (hg : B ≤ g) (hs : B ≤ w.heap.size) : Below B w0 w' :=
  h.trans ⟨k.os, k.tape, k.output, k.size, fun i hi => k.block i (by omega) (by omega) (by omega)⟩
theorem Blk.two {w w' : World} {p g k : Nat} {cs : Array Value} {ty : TypeId} (h : Blk w k cs ty) (t : Two w w' p g) (h1 : k ≠ p) (h2 : k ≠ g) : Blk w' k cs ty := by
  unfold Blk at *
  rw [t.block k (lt_of_block h) h1 h2]; exact h

/-- The post of a method of a pod. -/
def Post (w : World) (p g : Nat) (v : Value) (id made told last sum a b l d : Int) (e : Ending) (w' : World) : Prop := e = .returned v ∧ Pd w' p g id made told last sum a b l d ∧ Two w w' p g

set_option maxHeartbeats 1000000 in
theorem load_any (p g : Nat) (id made told last sum a b l d : Int) (w : World) (h : Pd w p g id made told last sum a b l d) : Calls Try.prog 57 #[.pointer (some ⟨p, 0, none⟩)] w fun e w' => e = .returned (.complex .f64 (fl a) (fl b)) ∧ w = w' := by
  have c1 : w.cell? ⟨p, 1, none⟩ = some (.pointer (some ⟨g, 0, none⟩)) := Blk.cell h.pod 1
  have hb := Lib.hid h.br
  clear h
  go_enter Try.func57, Try.ntmps57
  go_wp2_with (go_at_call 44; refine (B.load_any _ _ _ _ _ _ hb.out).mono ?_; rintro e w' ⟨rfl, rfl⟩)
  go_ret
  exact ⟨rfl, rfl⟩
theorem nil_load (w : World) : Calls Try.prog 57 #[.pointer none] w fun e w' => e = .returned (.complex .f64 0 0) ∧ w = w' := by
  go_enter Try.func57, Try.ntmps57
  go_wp2
  go_ret
  exact ⟨rfl, rfl⟩
theorem nil_enter (now : Int) (w : World) : Calls Try.prog 49 #[.pointer none, .int .i64 now] w fun e w' => e = .returned (.tuple #[.bool false, .int .i64 8]) ∧ w = w' := by
  go_enter Try.func49, Try.ntmps49
  go_wp2_with (go_at_call 61; refine (nil_at _ _).mono ?_; rintro e w' ⟨rfl, rfl⟩)
  go_ret2
  exact ⟨rfl, rfl⟩

set_option maxHeartbeats 1000000 in
theorem enter_no (p g : Nat) (id made told last sum a b l d now : Int) (w : World) (h : Pd w p g id made told last sum a b l d) (hx : now < last ∨ 1099511627776 < now) : Calls Try.prog 49 #[.pointer (some ⟨p, 0, none⟩), .int .i64 now] w (Post w p g (.tuple #[.bool false, .int .i64 1]) id made told last sum a b l d) := by
  have H := Lib.hid h
  have X := Lib.hid hx
  clear h hx
  go_enter Try.func49, Try.ntmps49
  go_wp2_with (go_at_call 61; refine (at_no p g id made told last sum now _ H.out.pod X.out).mono ?_; rintro e w' ⟨rfl, rfl⟩)
  go_ret2
  exact ⟨rfl, H.out, Two.refl _ _ _⟩
set_option maxHeartbeats 1000000 in
theorem leave_no (p g : Nat) (id made told last sum a b l d now : Int) (w : World) (h : Pd w p g id made told last sum a b l d) (hx : now < last ∨ 1099511627776 < now) : Calls Try.prog 50 #[.pointer (some ⟨p, 0, none⟩), .int .i64 now] w (Post w p g (.tuple #[.bool false, .int .i64 1]) id made told last sum a b l d) := by
  have H := Lib.hid h
  have X := Lib.hid hx
  clear h hx
  go_enter Try.func50, Try.ntmps50
  go_wp2_with (go_at_call 61; refine (at_no p g id made told last sum now _ H.out.pod X.out).mono ?_; rintro e w' ⟨rfl, rfl⟩)
  go_ret2
  exact ⟨rfl, H.out, Two.refl _ _ _⟩

set_option maxHeartbeats 1000000 in
theorem enter_yes (p g : Nat) (id made told last sum a b l d now : Int) (w : World) (h : Pd w p g id made told last sum a b l d) (o : Ok id made told last sum a b l d) (h1 : last ≤ now) (h2 : now ≤ 1099511627776) (r : Bool) (c : Int) (a' b' : Int)
    (hE : ∀ W, Br W g a b l d → Calls Try.prog 33 #[.pointer (some ⟨g, 0, none⟩)] W (B.Post W g (.tuple #[.bool r, .int .i64 c]) a' b' l d)) :
    Calls Try.prog 49 #[.pointer (some ⟨p, 0, none⟩), .int .i64 now] w (Post w p g (.tuple #[.bool r, .int .i64 c]) id made told now (sumAt last sum a b now) a' b' l d) := by
  have A := Lib.hid (at_yes p g id made told last sum a b l d now w h o h1 h2)
  have E := Lib.hid hE
  have H := Lib.hid h
  clear h o hE
  go_enter Try.func49, Try.ntmps49
  go_wp2_with fail
  refine A.out.mono ?_
  rintro e w1 ⟨rfl, hp1, ho1⟩
  have c1 : w1.cell? ⟨p, 1, none⟩ = some (.pointer (some ⟨g, 0, none⟩)) := Blk.cell hp1 1
  have H1 := pd_at H.out hp1 ho1
  go_wp2_with fail
  refine (E.out _ H1.br).mono ?_
  rintro e w2 ⟨rfl, hb2, ho2⟩
  go_wp2
  go_ret2
  exact ⟨rfl, pd_br H1 hb2 ho2, (Two.mk1 ho1).trans (Two.mk2 ho2)⟩
set_option maxHeartbeats 1000000 in
theorem leave_yes (p g : Nat) (id made told last sum a b l d now : Int) (w : World) (h : Pd w p g id made told last sum a b l d) (o : Ok id made told last sum a b l d) (h1 : last ≤ now) (h2 : now ≤ 1099511627776) (r : Bool) (c : Int) (a' b' : Int)
    (hE : ∀ W, Br W g a b l d → Calls Try.prog 40 #[.pointer (some ⟨g, 0, none⟩)] W (B.Post W g (.tuple #[.bool r, .int .i64 c]) a' b' l d)) :
    Calls Try.prog 50 #[.pointer (some ⟨p, 0, none⟩), .int .i64 now] w (Post w p g (.tuple #[.bool r, .int .i64 c]) id made told now (sumAt last sum a b now) a' b' l d) := by
  have A := Lib.hid (at_yes p g id made told last sum a b l d now w h o h1 h2)
  have E := Lib.hid hE
  have H := Lib.hid h
  clear h o hE
  go_enter Try.func50, Try.ntmps50
  go_wp2_with fail
  refine A.out.mono ?_
  rintro e w1 ⟨rfl, hp1, ho1⟩
  have c1 : w1.cell? ⟨p, 1, none⟩ = some (.pointer (some ⟨g, 0, none⟩)) := Blk.cell hp1 1
  have H1 := pd_at H.out hp1 ho1
  go_wp2_with fail
  refine (E.out _ H1.br).mono ?_
  rintro e w2 ⟨rfl, hb2, ho2⟩
  go_wp2
  go_ret2
  exact ⟨rfl, pd_br H1 hb2 ho2, (Two.mk1 ho1).trans (Two.mk2 ho2)⟩

/-- May such a pod be? -/
def MayP (id l d now : Int) : Prop := May l d ∧ 0 ≤ id ∧ 0 ≤ now ∧ now ≤ 1099511627776

set_option maxHeartbeats 1000000 in
theorem new_yes (id l d now : Int) (w : World) (h : MayP id l d now) : Calls Try.prog 48 #[.int .i64 id, .int .i64 l, .int .i64 d, .int .i64 now] w fun e w' => e = .returned (.pointer (some ⟨w.heap.size + 1, 0, none⟩)) ∧ Pd w' (w.heap.size + 1) w.heap.size id now now now 0 0 0 l d ∧ Below w.heap.size w w' ∧ w'.heap.size = w.heap.size + 2 := by
  obtain ⟨hm, i0, n0, n1⟩ := h
  have k1 : decide (id < 0) = false := decide_eq_false (by omega)
  have k2 : decide (now < 0) = false := decide_eq_false (by omega)
  have k3 : decide (1099511627776 < now) = false := decide_eq_false (by omega)
  go_enter Try.func48, Try.ntmps48
  go_wp2_with fail
  refine (B.new_yes l d _ hm).mono ?_
  rintro e w0 ⟨rfl, h0, hw⟩
  have hb0 : Below w.heap.size w w0 := by rw [hw]; exact (Below.refl _ _).alloc (Nat.le_refl _) _
  have hs0 : w0.heap.size = w.heap.size + 1 := by rw [hw]; simp
  have HS := Lib.hid hs0
  clear hw hs0
  go_wp2
  go_ret
  refine ⟨by rw [HS.out]; rfl, ⟨?_, Blk.alloc h0 _, by omega⟩, hb0.alloc (by have := HS.out; omega) _, by have := HS.out; simp; omega⟩
  have := Blk.new w0 #[.int .i64 id, .pointer (some ⟨w.heap.size, 0, none⟩), .int .i64 now, .int .i64 now, .int .i64 now, .int .i64 0] 77
  rw [HS.out] at this
  exact this

set_option maxHeartbeats 1000000 in
theorem new_no (id l d now : Int) (w : World) (h : ¬ MayP id l d now) : Calls Try.prog 48 #[.int .i64 id, .int .i64 l, .int .i64 d, .int .i64 now] w fun e w' => e = .returned (.pointer none) ∧ Below w.heap.size w w' := by
  by_cases hm : May l d
  · have h' : id < 0 ∨ (0 ≤ id ∧ now < 0) ∨ (0 ≤ id ∧ 0 ≤ now ∧ 1099511627776 < now) := by
      unfold MayP at h
      have : ¬ (0 ≤ id ∧ 0 ≤ now ∧ now ≤ 1099511627776) := fun k => h ⟨hm, k⟩
      omega
    have HM := Lib.hid hm
    clear h hm
    rcases h' with h1 | ⟨h1, h2⟩ | ⟨h1, h2, h3⟩
    all_goals
      go_enter Try.func48, Try.ntmps48
      go_wp2_with fail
      refine (B.new_yes l d _ HM.out).mono ?_
      rintro e w0 ⟨rfl, h0, hw⟩
      have hb0 : Below w.heap.size w w0 := by rw [hw]; exact (Below.refl _ _).alloc (Nat.le_refl _) _
      clear hw h0
      go_wp2
      go_ret
      exact ⟨rfl, hb0⟩
  · have HM := Lib.hid hm
    clear h hm
    go_enter Try.func48, Try.ntmps48
    go_wp2_with fail
    refine (B.new_no l d _ HM.out).mono ?_
    rintro e w0 ⟨rfl, rfl⟩
    go_wp2
    go_ret
    exact ⟨rfl, Below.refl _ _⟩

end Go.Proofs.Ytnlfocmmnjgmpaa.D
