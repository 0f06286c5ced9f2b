/- The reference's pod: its time, Enter, Leave, Stat, NewRunner. -/
import Derived.Test.YtnlfocmmnjgmpaaD2
import Derived.Test.YtnlfocmmnjgmpaaR
namespace Go.Proofs.Ytnlfocmmnjgmpaa.E
open Go.RowKit Go.Proofs.Ytnlfocmmnjgmpaa.Fl Go.Proofs.Ytnlfocmmnjgmpaa.L Go.Proofs.Ytnlfocmmnjgmpaa.B Go.Proofs.Ytnlfocmmnjgmpaa.D
open Go.Proofs.Ytnlfocmmnjgmpaa.R (Rb)

def Qb (w : World) (p g : Nat) (id made told last sum : Int) : Prop := Blk w p #[.int .i64 id, .pointer (some ⟨g, 0, none⟩), .int .i64 made, .int .i64 last, .int .i64 told, .int .i64 sum] 67

/-- A pod of the reference: its block and its breaker's. -/
structure Rd (w : World) (p g : Nat) (id made told last sum a b l d : Int) : Prop where
  pod : Qb w p g id made told last sum
  br : Rb w g a b l d
  ne : p ≠ g

theorem Qb.sets {w : World} {p g : Nat} {id made told last sum : Int} (h : Qb w p g id made told last sum) (s : Int) : Qb (w.setCell ⟨p, 5, none⟩ (.int .i64 s)) p g id made told last s := Blk.set h 5 _
theorem Qb.setl {w : World} {p g : Nat} {id made told last sum : Int} (h : Qb w p g id made told last sum) (s : Int) : Qb (w.setCell ⟨p, 3, none⟩ (.int .i64 s)) p g id made told s sum := Blk.set h 3 _
theorem Qb.sett {w : World} {p g : Nat} {id made told last sum : Int} (h : Qb w p g id made told last sum) (s : Int) : Qb (w.setCell ⟨p, 4, none⟩ (.int .i64 s)) p g id made s last sum := Blk.set h 4 _
theorem Rb.other {w : World} {p g j : Nat} {a b l d : Int} (h : Rb w g a b l d) (hn : p ≠ g) (v : Value) : Rb (w.setCell ⟨p, j, none⟩ v) g a b l d := by
  unfold R.Rb Blk at *
  rw [Below.heap_setCell _ _ _ _ (fun e => hn e.symm)]; exact h
theorem rd_at {w w' : World} {p g : Nat} {id made told last sum a b l d now s : Int} (h : Rd w p g id made told last sum a b l d) (hp : Qb w' p g id made told now s) (ho : Only w w' p) : Rd w' p g id made told now s a b l d :=
  ⟨hp, by unfold R.Rb; exact Blk.grown h.br ho (fun e => h.ne e.symm), h.ne⟩
theorem rd_br {w w' : World} {p g : Nat} {id made told last sum a b l d a' b' l' d' : Int} (h : Rd w p g id made told last sum a b l d) (hb : Rb w' g a' b' l' d') (ho : w.grownBy w' (some g)) : Rd w' p g id made told last sum a' b' l' d' :=
  ⟨by unfold Qb; exact Blk.grown h.pod ho h.ne, hb, h.ne⟩
theorem rd_alloc {w : World} {p g : Nat} {id made told last sum a b l d : Int} (h : Rd w p g id made told last sum a b l d) (o : Obj) : Rd (w.alloc o) p g id made told last sum a b l d :=
  ⟨Blk.alloc h.pod o, Blk.alloc h.br o, h.ne⟩
theorem rd_drew {w : World} {p g : Nat} {id made told last sum a b l d : Int} (h : Rd w p g id made told last sum a b l d) : Rd w.drew p g id made told last sum a b l d := ⟨h.pod, h.br, h.ne⟩
theorem rd_other {w : World} {p g k j : Nat} {id made told last sum a b l d : Int} {v : Value} (h : Rd w p g id made told last sum a b l d) (h1 : ¬ k = p) (h2 : ¬ k = g) : Rd (w.setCell ⟨k, j, none⟩ v) p g id made told last sum a b l d :=
  ⟨by have := h.pod; unfold Qb Blk at *; rw [Below.heap_setCell _ _ _ _ (fun e => h1 e.symm)]; exact this, Rb.other h.br h2 v, h.ne⟩
theorem rd_sum {w : World} {p g : Nat} {id made told last sum a b l d s : Int} (h : Rd w p g id made told last sum a b l d) : Rd (w.setCell ⟨p, 5, none⟩ (.int .i64 s)) p g id made told last s a b l d :=
  ⟨Qb.sets h.pod _, Rb.other h.br h.ne _, h.ne⟩
theorem rd_told {w : World} {p g : Nat} {id made told last sum a b l d s : Int} (h : Rd w p g id made told last sum a b l d) : Rd (w.setCell ⟨p, 4, none⟩ (.int .i64 s)) p g id made s last sum a b l d :=
  ⟨Qb.sett h.pod _, Rb.other h.br h.ne _, h.ne⟩

def Post (w : World) (p g : Nat) (v : Value) (id made told last sum a b l d : Int) (e : Ending) (w' : World) : Prop := e = .returned v ∧ Rd w' p g id made told last sum a b l d ∧ Two w w' p g

set_option maxHeartbeats 400000 in
theorem on_no (p g : Nat) (id made told last sum now : Int) (w : World) (h : Qb w p g id made told last sum) (hx : now < last ∨ 1099511627776 < now) : Calls Try.prog 63 #[.pointer (some ⟨p, 0, none⟩), .int .i64 now] w fun e w' => e = .returned (.bool false) ∧ w = w' := by
  have c4 : w.cell? ⟨p, 3, none⟩ = some (.int .i64 last) := Blk.cell h 3
  clear h
  have hx' : now < last ∨ (last ≤ now ∧ 1099511627776 < now) := by omega
  clear hx
  rcases hx' with h1 | ⟨h1, h2⟩
  · have k1 : decide (now < last) = true := decide_eq_true h1
    go_enter Try.func63, Try.ntmps63
    go_wp2
    go_ret
    exact ⟨rfl, rfl⟩
  · have k1 : decide (now < last) = false := decide_eq_false (by omega)
    have k2 : decide (1099511627776 < now) = true := decide_eq_true h2
    go_enter Try.func63, Try.ntmps63
    go_wp2
    go_ret
    exact ⟨rfl, rfl⟩

set_option maxHeartbeats 2000000 in
theorem on_yes (p g : Nat) (id made told last sum a b l d now : Int) (w : World) (h : Rd w p g id made told last sum a b l d) (o : Ok id made told last sum a b l d) (h1 : last ≤ now) (h2 : now ≤ 1099511627776) :
    Calls Try.prog 63 #[.pointer (some ⟨p, 0, none⟩), .int .i64 now] w fun e w' => e = .returned (.bool true) ∧ Qb w' p g id made told now (sum + (now - last) * (a + b)) ∧ Only w w' p := by
  obtain ⟨⟨⟨a0, a1⟩, ⟨b0, b1⟩, ⟨l0, l1⟩, d0, d1⟩, ⟨i0, i1⟩, ⟨m0, m1⟩, ⟨t0, t1⟩, u0, u1⟩ := o
  have c1 : w.cell? ⟨p, 1, none⟩ = some (.pointer (some ⟨g, 0, none⟩)) := Blk.cell h.pod 1
  have c4 : w.cell? ⟨p, 3, none⟩ = some (.int .i64 last) := Blk.cell h.pod 3
  have c5 : w.cell? ⟨p, 5, none⟩ = some (.int .i64 sum) := Blk.cell h.pod 5
  have ca : w.cell? ⟨g, 2, none⟩ = some (.int .i64 a) := Blk.cell h.br 2
  have cb : w.cell? ⟨g, 3, none⟩ = some (.int .i64 b) := Blk.cell h.br 3
  have f4 := Blk.free h.pod 3
  have f5 := Blk.free h.pod 5
  have H := Lib.hid h.pod
  clear h
  have k1 : decide (now < last) = false := decide_eq_false (by omega)
  have k2 : decide (1099511627776 < now) = false := decide_eq_false (by omega)
  have pb := prod_bd (x := now - last) (y := a + b) (by omega) (by omega) (by omega) (by omega)
  obtain ⟨pb0, pb1⟩ := pb
  have e1 : IntKind.i64.wrap ((now - last) * (a + b)) = (now - last) * (a + b) := wrap_in (by omega) (by omega)
  have e2 : IntKind.i64.wrap (sum + (now - last) * (a + b)) = sum + (now - last) * (a + b) := wrap_in (by omega) (by omega)
  have e3 : IntKind.i64.wrap (now - last) = now - last := wrap_in (by omega) (by omega)
  have e4 : IntKind.i64.wrap (a + b) = a + b := wrap_in (by omega) (by omega)
  go_enter Try.func63, Try.ntmps63
  go_wp2
  go_still_tail 30, (by kernel_rfl)
  change wpList _ _ _ _ _ w.drew
  have H2 := Lib.hid (show Qb w.drew p g id made told last sum from H.out)
  have G2 : Hid (w.grownBy w.drew (some p)) := ⟨rfl, rfl, rfl, Nat.le_refl _, fun _ _ _ => rfl⟩
  have y4 : w.drew.cell? ⟨p, 3, none⟩ = some (.int .i64 last) := c4
  have y5 : w.drew.cell? ⟨p, 5, none⟩ = some (.int .i64 sum) := c5
  have yf4 : w.drew.frozen? ⟨p, 3, none⟩ = false := f4
  have yf5 : w.drew.frozen? ⟨p, 5, none⟩ = false := f5
  clear c1 c4 c5 ca cb f4 f5 H
  generalize w.drew = U at *
  go_wp2
  go_ret
  exact ⟨rfl, Qb.setl (Qb.sets H2.out _) _, grown_set (grown_set G2.out 5 _) 3 _⟩
end Go.Proofs.Ytnlfocmmnjgmpaa.E
