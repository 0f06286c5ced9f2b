/- What the methods of package breaker do to a breaker. -/
import Derived.Test.YtnlfocmmnjgmpaaL
import Derived.OneCell
import Derived.Laws.Rows
namespace Go.Proofs.Ytnlfocmmnjgmpaa.B
open Go.RowKit Go.Proofs.Ytnlfocmmnjgmpaa.Fl Go.Proofs.Ytnlfocmmnjgmpaa.L

theorem quiet_left {P : Program} {f : FuncId} {args : Array Value} {w : World} {n : Nat} {v : Value}
    (h : Calls P f args (w.drewN n) fun e w' => e = .returned v ∧ w.drewN n = w') : Calls P f args (w.drewN n) fun e w'' => e = .returned v ∧ ∃ m, w'' = w.drewN m :=
  h.mono fun _ _ ⟨he, hm⟩ => ⟨he, n, hm.symm⟩

theorem quiet_add_left {P : Program} {f : FuncId} {args : Array Value} {w : World} {a n : Nat} {v : Value}
    (h : Calls P f args (w.drewN (a + n)) fun e w' => e = .returned v ∧ w.drewN (a + n) = w') :
    Calls P f args (w.drewN (a + n)) fun e w'' => e = .returned v ∧ ∃ m, w'' = w.drewN (a + m) :=
  h.mono fun _ _ ⟨he, hm⟩ => ⟨he, n, hm.symm⟩

@[go_sem] theorem run_store_complex {P : Program} {w : World} (a : Addr) (m : Mode) (k : FloatKind) (x y : Nat) : (store a (.complex k x y) m).run P w = stored P w a (.complex k x y) m := run_store P w a _ m rfl

/-- Block g holds these cells. -/
def Blk (w : World) (g : Nat) (cs : Array Value) (t : TypeId) : Prop := w.heap[g]? = some (.cells cs t (0, 0))

theorem Blk.lt {w : World} {g : Nat} {cs : Array Value} {t : TypeId} (h : Blk w g cs t) : g < w.heap.size := lt_of_block h
theorem Blk.cell {w : World} {g : Nat} {cs : Array Value} {t : TypeId} (h : Blk w g cs t) (j : Nat) : w.cell? ⟨g, j, none⟩ = cs[j]? := cell_of_row w g j cs t (0, 0) h
theorem Blk.free {w : World} {g : Nat} {cs : Array Value} {t : TypeId} (h : Blk w g cs t) (j : Nat) : w.frozen? ⟨g, j, none⟩ = false := frozen_of_row w g j cs t h
theorem Blk.drewN {w : World} {g : Nat} {cs : Array Value} {t : TypeId} (h : Blk w g cs t) (n : Nat) : Blk (w.drewN n) g cs t := h
theorem Blk.set {w : World} {g : Nat} {cs : Array Value} {t : TypeId} (h : Blk w g cs t) (j : Nat) (v : Value) : Blk (w.setCell ⟨g, j, none⟩ v) g (cs.setIfInBounds j v) t := by
  have hlt := h.lt
  unfold Blk at *
  have h' : w.heap[g] = .cells cs t (0, 0) := by simpa [Array.getElem?_eq_getElem hlt] using h
  show (w.heap.modify g _)[g]? = _
  rw [Array.getElem?_eq_getElem (by simpa using hlt), Array.getElem_modify_self, h']
  rfl
theorem Blk.alloc {w : World} {g : Nat} {cs : Array Value} {t : TypeId} (h : Blk w g cs t) (o : Obj) : Blk (w.alloc o) g cs t := by
  unfold Blk at *
  rw [Below.heap_alloc _ _ _ (lt_of_block h)]; exact h
theorem Blk.new (w : World) (cs : Array Value) (t : TypeId) : Blk (w.alloc (.cells cs t)) w.heap.size cs t := heap_alloc_new w _
theorem Blk.grown {w w' : World} {g : Nat} {cs : Array Value} {t : TypeId} (h : Blk w g cs t) {k : Nat} (hg : w.grownBy w' (some k)) (hk : g ≠ k) : Blk w' g cs t := by
  unfold Blk at *
  rw [hg.block g (lt_of_block h) (by simpa using hk)]; exact h
theorem Blk.below {w w' : World} {g : Nat} {cs : Array Value} {t : TypeId} (h : Blk w g cs t) {B : Nat} (hb : Below B w w') (hk : g < B) : Blk w' g cs t := by
  unfold Blk at *
  rw [hb.block g hk]; exact h

theorem grown_refl (w : World) (r : Option Nat) : w.grownBy w r := ⟨rfl, rfl, rfl, Nat.le_refl _, fun _ _ _ => rfl⟩
theorem grown_trans {a b c : World} {r : Option Nat} (h : a.grownBy b r) (k : b.grownBy c r) : a.grownBy c r :=
  ⟨k.os.trans h.os, k.tape.trans h.tape, k.output.trans h.output, Nat.le_trans h.size k.size, fun i hi hr => (k.block i (Nat.lt_of_lt_of_le hi h.size) hr).trans (h.block i hi hr)⟩
theorem grown_drewN {a b : World} {r : Option Nat} (h : a.grownBy b r) (n : Nat) : a.grownBy (b.drewN n) r := grown_trans h ⟨rfl, rfl, rfl, Nat.le_refl _, fun _ _ _ => rfl⟩
theorem grown_drew {a b : World} {r : Option Nat} (h : a.grownBy b r) : a.grownBy b.drew r := grown_trans h ⟨rfl, rfl, rfl, Nat.le_refl _, fun _ _ _ => rfl⟩
theorem grown_set {a b : World} {g : Nat} (h : a.grownBy b (some g)) (j : Nat) (v : Value) : a.grownBy (b.setCell ⟨g, j, none⟩ v) (some g) :=
  grown_trans h ⟨rfl, rfl, rfl, by simp [World.setCell], fun k _ hr => Below.heap_setCell _ _ _ _ (by intro e; exact hr (by rw [e]))⟩
theorem below_of_grown {B g : Nat} {a b c : World} (h : Below B a b) (hg : b.grownBy c (some g)) (hB : B ≤ g) (hs : B ≤ b.heap.size) : Below B a c :=
  h.grown hg hs (fun k hk => by simp only [Option.some.injEq] at hk; omega)

/-- A breaker: how many are in flight, and wait; how many may. -/
def Br (w : World) (g : Nat) (a b l d : Int) : Prop := Blk w g #[.complex .f64 (fl a) (fl b), .int .i64 l, .int .i64 d] 74
def St (a b l d : Int) : Prop := (0 ≤ a ∧ a ≤ 1000) ∧ (0 ≤ b ∧ b ≤ 1000) ∧ (0 ≤ l ∧ l ≤ 1000) ∧ (0 ≤ d ∧ d ≤ 1000)

theorem Br.z {w : World} {g : Nat} {a b l d : Int} (h : Br w g a b l d) : w.cell? ⟨g, 0, none⟩ = some (.complex .f64 (fl a) (fl b)) := Blk.cell h 0
theorem Br.l {w : World} {g : Nat} {a b l d : Int} (h : Br w g a b l d) : w.cell? ⟨g, 1, none⟩ = some (.int .i64 l) := Blk.cell h 1
theorem Br.d {w : World} {g : Nat} {a b l d : Int} (h : Br w g a b l d) : w.cell? ⟨g, 2, none⟩ = some (.int .i64 d) := Blk.cell h 2
theorem Br.setz {w : World} {g : Nat} {a b l d : Int} (h : Br w g a b l d) (a' b' : Int) : Br (w.setCell ⟨g, 0, none⟩ (.complex .f64 (fl a') (fl b'))) g a' b' l d := Blk.set h 0 _
theorem Br.setl {w : World} {g : Nat} {a b l d : Int} (h : Br w g a b l d) (l' : Int) : Br (w.setCell ⟨g, 1, none⟩ (.int .i64 l')) g a b l' d := Blk.set h 1 _
theorem Br.drewN {w : World} {g : Nat} {a b l d : Int} (h : Br w g a b l d) (n : Nat) : Br (w.drewN n) g a b l d := h

/-- The post of a method that may write to the breaker alone. -/
def Post (w : World) (g : Nat) (v : Value) (a b l d : Int) (e : Ending) (w' : World) : Prop := e = .returned v ∧ Br w' g a b l d ∧ w.grownBy w' (some g)

set_option maxHeartbeats 400000 in
theorem free_any (g : Nat) (a b l d : Int) (w : World) (h : Br w g a b l d) (s : St a b l d) : Calls Try.prog 37 #[.pointer (some ⟨g, 0, none⟩)] w fun e w' => e = .returned (.int .i64 (max (l - a) 0)) ∧ ∃ n, w' = w.drewN n := by
  obtain ⟨⟨a0, a1⟩, ⟨b0, b1⟩, ⟨l0, l1⟩, d0, d1⟩ := s
  have hz := h.z
  have hl := h.l
  have hd := h.d
  have hf0 := Blk.free h 0
  have hf1 := Blk.free h 1
  have ia : In a := ⟨by omega, by omega⟩
  have ib : In b := ⟨by omega, by omega⟩
  have H := Lib.hid h
  clear h
  clear hd hf0 hf1 H
  by_cases hc : l - a < 0
  all_goals
    go_enter Try.func37, Try.ntmps37
    go_wp2
    go_quiet ((go_at_call 23; (with_reducible exact quiet_left (busy_in a b _ ia))))
    go_wp2
    go_ret
    exact ⟨ret_int (by omega), _, rfl⟩

set_option maxHeartbeats 400000 in
theorem load_any (g : Nat) (a b l d : Int) (w : World) (h : Br w g a b l d) : Calls Try.prog 44 #[.pointer (some ⟨g, 0, none⟩)] w fun e w' => e = .returned (.complex .f64 (fl a) (fl b)) ∧ w = w' := by
  have hz := h.z
  clear h
  go_enter Try.func44, Try.ntmps44
  go_wp2
  go_ret
  exact ⟨rfl, rfl⟩

/-- How many go in. -/
def inN (a b l : Int) : Int := min (max (l - a) 0) b

theorem tup_int {a b : Int} {v : Value} (h : a = b) : Ending.returned (.tuple #[v, .int .i64 a]) = .returned (.tuple #[v, .int .i64 b]) := by rw [h]
theorem tup_bool {a b : Bool} {v : Value} (h : a = b) : Ending.returned (.tuple #[.bool a, v]) = .returned (.tuple #[.bool b, v]) := by rw [h]

set_option maxHeartbeats 1000000 in
theorem in_any (g : Nat) (a b l d : Int) (w : World) (h : Br w g a b l d) (s : St a b l d) : Calls Try.prog 59 #[.pointer (some ⟨g, 0, none⟩)] w (Post w g (.int .i64 (inN a b l)) (a + inN a b l) (b - inN a b l) l d) := by
  have F0 := fun n => free_any g a b l d (w.drewN n) (h.drewN n) s
  obtain ⟨⟨a0, a1⟩, ⟨b0, b1⟩, ⟨l0, l1⟩, d0, d1⟩ := s
  have hz := h.z
  have hl := h.l
  have hd := h.d
  have hf0 := Blk.free h 0
  have hf1 := Blk.free h 1
  have ia : In a := ⟨by omega, by omega⟩
  have ib : In b := ⟨by omega, by omega⟩
  have H := Lib.hid h
  clear h
  have hn : inN a b l = min (max (l - a) 0) b := rfl
  have n0 : 0 ≤ inN a b l := by omega
  have n1 : inN a b l ≤ b := by omega
  have mv := Lib.hid fun w => move_in a b (inN a b l) w ia ib (by unfold mayMove; omega)
  generalize inN a b l = n at *
  generalize hm : max (l - a) 0 = m at *
  have F := Lib.hid F0
  clear F0 hd hm
  by_cases hc : b < m
  · have e : n = b := by omega
    subst e
    clear hn
    go_enter Try.func59, Try.ntmps59
    go_wp2
    go_quiet ((first | (go_at_call 37; exact Calls.quiet_of (F.out _)) | (go_at_call 24; (with_reducible exact quiet_left (waiting_in a n _ ib)))))
    go_wp2_with (go_at_call 20; refine (mv.out _).mono ?_; rintro e w' ⟨rfl, rfl⟩)
    go_ret
    exact ⟨rfl, (by first | exact (H.out.drewN _).setz _ _ | (rw [Int.sub_self]; exact (H.out.drewN _).setz _ _)), grown_set (grown_drewN (grown_refl _ _) _) 0 _⟩
  · have e : n = m := by omega
    subst e
    clear hn
    go_enter Try.func59, Try.ntmps59
    go_wp2
    go_quiet ((first | (go_at_call 37; exact Calls.quiet_of (F.out _)) | (go_at_call 24; (with_reducible exact quiet_left (waiting_in a b _ ib)))))
    go_wp2_with (go_at_call 20; refine (mv.out _).mono ?_; rintro e w' ⟨rfl, rfl⟩)
    go_ret
    exact ⟨rfl, (by first | exact (H.out.drewN _).setz _ _ | (rw [Int.sub_self]; exact (H.out.drewN _).setz _ _)), grown_set (grown_drewN (grown_refl _ _) _) 0 _⟩

theorem nil_enter (w : World) : Calls Try.prog 33 #[.pointer none] w fun e w' => e = .returned (.tuple #[.bool false, .int .i64 8]) ∧ w = w' := by
  go_enter Try.func33, Try.ntmps33
  go_wp2
  go_ret2
  exact ⟨rfl, rfl⟩
theorem nil_free (w : World) : Calls Try.prog 37 #[.pointer none] w fun e w' => e = .returned (.int .i64 0) ∧ w = w' := by
  go_enter Try.func37, Try.ntmps37
  go_wp2
  go_ret
  exact ⟨rfl, rfl⟩
theorem nil_load (w : World) : Calls Try.prog 44 #[.pointer none] w fun e w' => e = .returned (.complex .f64 0 0) ∧ w = w' := by
  go_enter Try.func44, Try.ntmps44
  go_wp2
  go_ret
  exact ⟨rfl, rfl⟩

def May (l d : Int) : Prop := 0 ≤ l ∧ l ≤ 1000 ∧ 0 ≤ d ∧ d ≤ 1000

set_option maxHeartbeats 1000000 in
theorem new_yes (l d : Int) (w : World) (h : May l d) : Calls Try.prog 32 #[.int .i64 l, .int .i64 d] w fun e w' => e = .returned (.pointer (some ⟨w.heap.size, 0, none⟩)) ∧ Br w' w.heap.size 0 0 l d ∧ w' = w.alloc (.cells #[.complex .f64 0 0, .int .i64 l, .int .i64 d] 74) := by
  obtain ⟨l0, l1, d0, d1⟩ := h
  have k1 : decide (l < 0) = false := decide_eq_false (by omega)
  have k2 : decide (1000 < l) = false := decide_eq_false (by omega)
  have k3 : decide (d < 0) = false := decide_eq_false (by omega)
  have k4 : decide (1000 < d) = false := decide_eq_false (by omega)
  go_enter Try.func32, Try.ntmps32
  go_wp2
  go_ret
  exact ⟨rfl, (by unfold Br; rw [fl_zero]; exact Blk.new _ _ _), rfl⟩

set_option maxHeartbeats 1000000 in
theorem new_no (l d : Int) (w : World) (h : ¬ May l d) : Calls Try.prog 32 #[.int .i64 l, .int .i64 d] w fun e w' => e = .returned (.pointer none) ∧ w = w' := by
  have h' : l < 0 ∨ (0 ≤ l ∧ 1000 < l) ∨ (0 ≤ l ∧ l ≤ 1000 ∧ d < 0) ∨ (0 ≤ l ∧ l ≤ 1000 ∧ 0 ≤ d ∧ 1000 < d) := by unfold May at h; omega
  clear h
  rcases h' with h1 | ⟨h1, h2⟩ | ⟨h1, h2, h3⟩ | ⟨h1, h2, h3, h4⟩
  all_goals
    go_enter Try.func32, Try.ntmps32
    go_wp2
    go_ret
    exact ⟨rfl, rfl⟩

set_option maxHeartbeats 1000000 in
theorem enter_in (g : Nat) (a b l d : Int) (w : World) (h : Br w g a b l d) (s : St a b l d) (hal : a < l) : Calls Try.prog 33 #[.pointer (some ⟨g, 0, none⟩)] w (Post w g (.tuple #[.bool true, .int .i64 0]) (a + 1) b l d) := by
  obtain ⟨⟨a0, a1⟩, ⟨b0, b1⟩, ⟨l0, l1⟩, d0, d1⟩ := s
  have hz := h.z
  have hl := h.l
  have hd := h.d
  have hf0 := Blk.free h 0
  have hf1 := Blk.free h 1
  have ia : In a := ⟨by omega, by omega⟩
  have ib : In b := ⟨by omega, by omega⟩
  have H := Lib.hid h
  clear h
  have hs := fun w => (run_complex_sum (P := Try.prog) w .add (.inl rfl) 23 .f64 (fl a) (fl b) 4607182418800017408 0 _ _ (cadd_busy (by omega) (by omega) (by omega) (by omega)))
  clear hd hf1
  go_enter Try.func33, Try.ntmps33
  go_wp2
  go_quiet ((go_at_call 23; (with_reducible exact quiet_left (busy_in a b _ ia))))
  go_wp2
  go_ret2
  exact ⟨rfl, (H.out.drewN _).setz _ _, grown_set (grown_drewN (grown_refl _ _) _) 0 _⟩

set_option maxHeartbeats 1000000 in
theorem enter_wait (g : Nat) (a b l d : Int) (w : World) (h : Br w g a b l d) (s : St a b l d) (hal : ¬ a < l) (hbd : b < d) : Calls Try.prog 33 #[.pointer (some ⟨g, 0, none⟩)] w (Post w g (.tuple #[.bool false, .int .i64 0]) a (b + 1) l d) := by
  obtain ⟨⟨a0, a1⟩, ⟨b0, b1⟩, ⟨l0, l1⟩, d0, d1⟩ := s
  have hz := h.z
  have hl := h.l
  have hd := h.d
  have hf0 := Blk.free h 0
  have hf1 := Blk.free h 1
  have ia : In a := ⟨by omega, by omega⟩
  have ib : In b := ⟨by omega, by omega⟩
  have H := Lib.hid h
  clear h
  have hs := fun w => (run_complex_sum (P := Try.prog) w .add (.inl rfl) 23 .f64 (fl a) (fl b) 0 4607182418800017408 _ _ (cadd_wait (by omega) (by omega) (by omega) (by omega)))
  clear hf1
  go_enter Try.func33, Try.ntmps33
  go_wp2
  go_quiet ((go_at_call 23; (with_reducible exact quiet_left (busy_in a b _ ia))))
  go_wp2
  go_quiet ((go_at_call 24; (with_reducible exact quiet_add_left (waiting_in a b _ ib))))
  go_wp2
  go_ret2
  exact ⟨rfl, (H.out.drewN _).setz _ _, grown_set (grown_drewN (grown_refl _ _) _) 0 _⟩

set_option maxHeartbeats 1000000 in
theorem enter_full (g : Nat) (a b l d : Int) (w : World) (h : Br w g a b l d) (s : St a b l d) (hal : ¬ a < l) (hbd : ¬ b < d) : Calls Try.prog 33 #[.pointer (some ⟨g, 0, none⟩)] w (Post w g (.tuple #[.bool false, .int .i64 6]) a b l d) := by
  obtain ⟨⟨a0, a1⟩, ⟨b0, b1⟩, ⟨l0, l1⟩, d0, d1⟩ := s
  have hz := h.z
  have hl := h.l
  have hd := h.d
  have hf0 := Blk.free h 0
  have hf1 := Blk.free h 1
  have ia : In a := ⟨by omega, by omega⟩
  have ib : In b := ⟨by omega, by omega⟩
  have H := Lib.hid h
  clear h
  clear hf0 hf1
  go_enter Try.func33, Try.ntmps33
  go_wp2
  go_quiet ((go_at_call 23; (with_reducible exact quiet_left (busy_in a b _ ia))))
  go_wp2
  go_quiet ((go_at_call 24; (with_reducible exact quiet_add_left (waiting_in a b _ ib))))
  go_wp2
  go_ret2
  exact ⟨rfl, (H.out.drewN _).drewN _, grown_drewN (grown_drewN (grown_refl _ _) _) _⟩

set_option maxHeartbeats 1000000 in
theorem quit_none (g : Nat) (a b l d : Int) (w : World) (h : Br w g a b l d) (s : St a b l d) (hb : b = 0) : Calls Try.prog 34 #[.pointer (some ⟨g, 0, none⟩)] w (Post w g (.int .i64 7) a b l d) := by
  obtain ⟨⟨a0, a1⟩, ⟨b0, b1⟩, ⟨l0, l1⟩, d0, d1⟩ := s
  have hz := h.z
  have hl := h.l
  have hd := h.d
  have hf0 := Blk.free h 0
  have hf1 := Blk.free h 1
  have ia : In a := ⟨by omega, by omega⟩
  have ib : In b := ⟨by omega, by omega⟩
  have H := Lib.hid h
  clear h
  have hb' : (b == 0) = true := beq_iff_eq.2 hb
  clear hl hd hf0 hf1 hb
  go_enter Try.func34, Try.ntmps34
  go_wp2_with (go_at_call 24; refine (waiting_in a b _ ib).mono ?_; rintro e w' ⟨rfl, rfl⟩)
  go_ret
  exact ⟨rfl, H.out, grown_refl _ _⟩

set_option maxHeartbeats 1000000 in
theorem quit_some (g : Nat) (a b l d : Int) (w : World) (h : Br w g a b l d) (s : St a b l d) (hb : ¬ b = 0) : Calls Try.prog 34 #[.pointer (some ⟨g, 0, none⟩)] w (Post w g (.int .i64 0) a (b - 1) l d) := by
  obtain ⟨⟨a0, a1⟩, ⟨b0, b1⟩, ⟨l0, l1⟩, d0, d1⟩ := s
  have hz := h.z
  have hl := h.l
  have hd := h.d
  have hf0 := Blk.free h 0
  have hf1 := Blk.free h 1
  have ia : In a := ⟨by omega, by omega⟩
  have ib : In b := ⟨by omega, by omega⟩
  have H := Lib.hid h
  clear h
  have hs := fun w => (run_complex_sum (P := Try.prog) w .sub (.inr rfl) 23 .f64 (fl a) (fl b) 0 4607182418800017408 _ _ (csub_wait (by omega) (by omega) (by omega) (by omega)))
  have hb' : (b == 0) = false := beq_eq_false_iff_ne.2 hb
  clear hl hd hf1 hb
  go_enter Try.func34, Try.ntmps34
  go_wp2_with (go_at_call 24; refine (waiting_in a b _ ib).mono ?_; rintro e w' ⟨rfl, rfl⟩)
  go_ret
  exact ⟨rfl, H.out.setz _ _, grown_set (grown_refl _ _) 0 _⟩

set_option maxHeartbeats 1000000 in
theorem leave_none (g : Nat) (a b l d : Int) (w : World) (h : Br w g a b l d) (s : St a b l d) (ha : a = 0) : Calls Try.prog 40 #[.pointer (some ⟨g, 0, none⟩)] w (Post w g (.tuple #[.bool false, .int .i64 7]) a b l d) := by
  obtain ⟨⟨a0, a1⟩, ⟨b0, b1⟩, ⟨l0, l1⟩, d0, d1⟩ := s
  have hz := h.z
  have hl := h.l
  have hd := h.d
  have hf0 := Blk.free h 0
  have hf1 := Blk.free h 1
  have ia : In a := ⟨by omega, by omega⟩
  have ib : In b := ⟨by omega, by omega⟩
  have H := Lib.hid h
  clear h
  have ha' : (a == 0) = true := beq_iff_eq.2 ha
  clear hl hd hf0 hf1 ha
  go_enter Try.func40, Try.ntmps40
  go_wp2_with (go_at_call 23; refine (busy_in a b _ ia).mono ?_; rintro e w' ⟨rfl, rfl⟩)
  go_ret2
  exact ⟨rfl, H.out, grown_refl _ _⟩

set_option maxHeartbeats 1000000 in
theorem leave_some (g : Nat) (a b l d : Int) (w : World) (h : Br w g a b l d) (s : St a b l d) (ha : ¬ a = 0) : Calls Try.prog 40 #[.pointer (some ⟨g, 0, none⟩)] w (Post w g (.tuple #[.bool (decide (0 < inN (a - 1) b l)), .int .i64 0]) (a - 1 + inN (a - 1) b l) (b - inN (a - 1) b l) l d) := by
  obtain ⟨⟨a0, a1⟩, ⟨b0, b1⟩, ⟨l0, l1⟩, d0, d1⟩ := s
  have hz := h.z
  have hl := h.l
  have hd := h.d
  have hf0 := Blk.free h 0
  have hf1 := Blk.free h 1
  have ia : In a := ⟨by omega, by omega⟩
  have ib : In b := ⟨by omega, by omega⟩
  have H := Lib.hid h
  clear h
  have F2 := Lib.hid fun W (hB : Br W g (a - 1) b l d) => in_any g (a - 1) b l d W hB ⟨⟨by omega, by omega⟩, ⟨b0, b1⟩, ⟨l0, l1⟩, d0, d1⟩
  have hs := fun w => (run_complex_sum (P := Try.prog) w .sub (.inr rfl) 23 .f64 (fl a) (fl b) 4607182418800017408 0 _ _ (csub_busy (by omega) (by omega) (by omega) (by omega)))
  have ha' : (a == 0) = false := beq_eq_false_iff_ne.2 ha
  generalize inN (a - 1) b l = n at *
  clear hl hd hf1 ha
  go_enter Try.func40, Try.ntmps40
  go_wp2_with (first | (go_at_call 23; refine (busy_in a b _ ia).mono ?_; rintro e w' ⟨rfl, rfl⟩) | (go_at_call 59; refine (F2.out _ (H.out.setz _ _)).mono ?_; rintro e w1 ⟨rfl, hB, hG⟩))
  go_ret2
  exact ⟨rfl, hB, grown_trans (grown_set (grown_refl _ _) 0 _) hG⟩

set_option maxHeartbeats 1000000 in
theorem limit_no (g : Nat) (a b l d n : Int) (w : World) (h : Br w g a b l d) (hn : n < 0 ∨ 1000 < n) : Calls Try.prog 35 #[.pointer (some ⟨g, 0, none⟩), .int .i64 n] w (Post w g (.tuple #[.int .i64 0, .int .i64 1]) a b l d) := by
  have H := Lib.hid h
  clear h
  have h' : n < 0 ∨ (0 ≤ n ∧ 1000 < n) := by omega
  clear hn
  rcases h' with h1 | ⟨h1, h2⟩
  all_goals
    go_enter Try.func35, Try.ntmps35
    go_wp2
    go_ret2
    exact ⟨rfl, H.out, grown_refl _ _⟩

set_option maxHeartbeats 1000000 in
theorem limit_yes (g : Nat) (a b l d n : Int) (w : World) (h : Br w g a b l d) (s : St a b l d) (hn0 : 0 ≤ n) (hn1 : n ≤ 1000) : Calls Try.prog 35 #[.pointer (some ⟨g, 0, none⟩), .int .i64 n] w (Post w g (.tuple #[.int .i64 (inN a b n), .int .i64 0]) (a + inN a b n) (b - inN a b n) n d) := by
  obtain ⟨⟨a0, a1⟩, ⟨b0, b1⟩, ⟨l0, l1⟩, d0, d1⟩ := s
  have hz := h.z
  have hl := h.l
  have hd := h.d
  have hf0 := Blk.free h 0
  have hf1 := Blk.free h 1
  have ia : In a := ⟨by omega, by omega⟩
  have ib : In b := ⟨by omega, by omega⟩
  have H := Lib.hid h
  clear h
  have F2 := Lib.hid fun W (hB : Br W g a b n d) => in_any g a b n d W hB ⟨⟨a0, a1⟩, ⟨b0, b1⟩, ⟨hn0, hn1⟩, d0, d1⟩
  have k1 : decide (n < 0) = false := decide_eq_false (by omega)
  have k2 : decide (1000 < n) = false := decide_eq_false (by omega)
  generalize inN a b n = q at *
  clear hz hd hf0
  go_enter Try.func35, Try.ntmps35
  go_wp2_with (go_at_call 59; refine (F2.out _ (H.out.setl _)).mono ?_; rintro e w1 ⟨rfl, hB, hG⟩)
  go_ret2
  exact ⟨rfl, hB, grown_trans (grown_set (grown_refl _ _) 1 _) hG⟩

end Go.Proofs.Ytnlfocmmnjgmpaa.B
