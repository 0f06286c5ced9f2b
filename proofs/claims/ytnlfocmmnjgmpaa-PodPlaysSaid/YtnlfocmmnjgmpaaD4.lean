/- Entering and leaving a pod by the sum of both parts. -/
import Derived.Test.YtnlfocmmnjgmpaaD8
namespace Go.Proofs.Ytnlfocmmnjgmpaa.D4
open Go.RowKit Go.Proofs.Ytnlfocmmnjgmpaa.Fl Go.Proofs.Ytnlfocmmnjgmpaa.L Go.Proofs.Ytnlfocmmnjgmpaa.B Go.Proofs.Ytnlfocmmnjgmpaa.B7 Go.Proofs.Ytnlfocmmnjgmpaa.D Go.Proofs.Ytnlfocmmnjgmpaa.D2

/-- 'uint(a) % m', m a number. -/
theorem urem (a m : Int) (h0 : 0 < m) : ∃ x, 0 ≤ x ∧ x < m ∧ (IntKind.u64.wrap a).tmod m = x := by
  have e : IntKind.u64.wrap a = a % 18446744073709551616 := by simp [IntKind.wrap, IntKind.signed, IntKind.bits]
  have p : 0 ≤ IntKind.u64.wrap a := by rw [e]; omega
  refine ⟨(IntKind.u64.wrap a) % m, Int.emod_nonneg _ (by omega), Int.emod_lt_of_pos _ h0, ?_⟩
  rw [Int.tmod_eq_emod_of_nonneg p]

theorem pd_two {w w' : World} {p g p2 g2 : Nat} {id made told last sum a b l d : Int} (h : Pd w p g id made told last sum a b l d) (t : Two w w' p2 g2) (n1 : p ≠ p2) (n2 : p ≠ g2) (n3 : g ≠ p2) (n4 : g ≠ g2) : Pd w' p g id made told last sum a b l d :=
  ⟨Blk.two h.pod t n1 n2, Blk.two h.br t n3 n4, h.ne⟩

/-- Nobody waits where there is room. -/
def Sh (a b l : Int) : Prop := 0 ≤ a ∧ a ≤ l ∧ 0 ≤ b ∧ (b = 0 ∨ a = l)

/-- The sum of both parts is n. -/
def Has (w : World) (p g : Nat) (id made told last sum n l d : Int) : Prop := ∃ a b, Pd w p g id made told last sum a b l d ∧ Sh a b l ∧ a + b = n

theorem enter_sum (p g : Nat) (id made told last sum n l d now : Int) (w : World) (h : Has w p g id made told last sum n l d) (hl : 0 ≤ l ∧ l ≤ 500 ∧ 0 ≤ d ∧ d ≤ 500) (hn : n < l + d) (hi : 0 ≤ id ∧ id ≤ 9223372036854775807) (hm : 0 ≤ made ∧ made ≤ told) (ht : told ≤ last ∧ last ≤ 1099511627776) (hs : 0 ≤ sum ∧ sum ≤ (last - told) * 2000) (h1 : last ≤ now) (h2 : now ≤ 1099511627776) :
    Calls Try.prog 49 #[.pointer (some ⟨p, 0, none⟩), .int .i64 now] w fun e w' => ∃ r : Bool, e = .returned (.tuple #[.bool r, .int .i64 0]) ∧ Has w' p g id made told now (sum + (now - last) * n) (n + 1) l d ∧ Two w w' p g := by
  obtain ⟨a, b, h, ⟨s0, s1, s2, s3⟩, rfl⟩ := h
  have o : Ok id made told last sum a b l d := ⟨st_lit (by omega), hi, hm, ht, hs⟩
  by_cases ha : a < l
  · refine (enter_yes p g id made told last sum a b l d now w h o h1 h2 true 0 (a + 1) b (fun W hW => B.enter_in _ a b l d W hW (st_lit (by omega)) ha)).mono ?_
    rintro e w' ⟨rfl, h', t'⟩
    exact ⟨true, rfl, ⟨a + 1, b, h', ⟨by omega, by omega, by omega, by omega⟩, by omega⟩, t'⟩
  · refine (enter_yes p g id made told last sum a b l d now w h o h1 h2 false 0 a (b + 1) (fun W hW => B.enter_wait _ a b l d W hW (st_lit (by omega)) ha (by omega))).mono ?_
    rintro e w' ⟨rfl, h', t'⟩
    exact ⟨false, rfl, ⟨a, b + 1, h', ⟨by omega, by omega, by omega, by omega⟩, by omega⟩, t'⟩

theorem leave_sum (p g : Nat) (id made told last sum n l d now : Int) (w : World) (h : Has w p g id made told last sum n l d) (hl : 1 ≤ l ∧ l ≤ 500 ∧ 0 ≤ d ∧ d ≤ 500) (hn : 0 < n) (hn2 : n ≤ l + d) (hi : 0 ≤ id ∧ id ≤ 9223372036854775807) (hm : 0 ≤ made ∧ made ≤ told) (ht : told ≤ last ∧ last ≤ 1099511627776) (hs : 0 ≤ sum ∧ sum ≤ (last - told) * 2000) (h1 : last ≤ now) (h2 : now ≤ 1099511627776) :
    Calls Try.prog 50 #[.pointer (some ⟨p, 0, none⟩), .int .i64 now] w fun e w' => ∃ r : Bool, e = .returned (.tuple #[.bool r, .int .i64 0]) ∧ Has w' p g id made told now (sum + (now - last) * n) (n - 1) l d ∧ Two w w' p g := by
  obtain ⟨a, b, h, ⟨s0, s1, s2, s3⟩, rfl⟩ := h
  have o : Ok id made told last sum a b l d := ⟨st_lit (by omega), hi, hm, ht, hs⟩
  refine (leave_yes p g id made told last sum a b l d now w h o h1 h2 _ 0 _ _ (fun W hW => B.leave_some _ a b l d W hW (st_lit (by omega)) (by omega))).mono ?_
  rintro e w' ⟨rfl, h', t'⟩
  refine ⟨_, rfl, ⟨_, _, h', ⟨?_, ?_, ?_, ?_⟩, ?_⟩, t'⟩ <;> unfold inN <;> omega

theorem stat_sum (p g : Nat) (id made told last sum n l d now : Int) (w : World) (h : Has w p g id made told last sum n l d) (hl : 0 ≤ l ∧ l ≤ 500 ∧ 0 ≤ d ∧ d ≤ 500) (hn : n ≤ l + d) (hi : 0 ≤ id ∧ id ≤ 9223372036854775807) (hm : 0 ≤ made ∧ made ≤ told) (ht : told ≤ last ∧ last ≤ 1099511627776) (hs : 0 ≤ sum ∧ sum ≤ (last - told) * 2000) (h1 : last ≤ now) (h2 : now ≤ 1099511627776) (hlt : told < now) (L : Int) (hL : (sum + (now - last) * n) * 1000 / (now - told) = L) :
    Calls Try.prog 51 #[.pointer (some ⟨p, 0, none⟩), .int .i64 now] w fun e w' => e = .returned (.agg #[.int .i64 id, .int .i64 (now - made), .int .i64 L]) ∧ Has w' p g id made now now 0 n l d ∧ Two w w' p g := by
  obtain ⟨a, b, h, ⟨s0, s1, s2, s3⟩, rfl⟩ := h
  have o : Ok id made told last sum a b l d := ⟨st_lit (by omega), hi, hm, ht, hs⟩
  refine (stat_yes p g id made told last sum a b l d now w h o h1 h2 hlt).mono ?_
  rintro e w' ⟨rfl, h', t'⟩
  refine ⟨by unfold sumAt; rw [hL], ⟨a, b, h', ⟨s0, s1, s2, s3⟩, rfl⟩, t'⟩

theorem stat_sum0 (p g : Nat) (id made told last sum n l d now : Int) (w : World) (h : Has w p g id made told last sum n l d) (hl : 0 ≤ l ∧ l ≤ 500 ∧ 0 ≤ d ∧ d ≤ 500) (hn : n ≤ l + d) (hi : 0 ≤ id ∧ id ≤ 9223372036854775807) (hm : 0 ≤ made ∧ made ≤ told) (ht : told ≤ last ∧ last ≤ 1099511627776) (hs : 0 ≤ sum ∧ sum ≤ (last - told) * 2000) (h1 : last ≤ now) (h2 : now ≤ 1099511627776) (hlt : ¬ told < now) :
    Calls Try.prog 51 #[.pointer (some ⟨p, 0, none⟩), .int .i64 now] w fun e w' => e = .returned (.agg #[.int .i64 id, .int .i64 (now - made), .int .i64 (n * 1000)]) ∧ Has w' p g id made now now 0 n l d ∧ Two w w' p g := by
  obtain ⟨a, b, h, ⟨s0, s1, s2, s3⟩, rfl⟩ := h
  have o : Ok id made told last sum a b l d := ⟨st_lit (by omega), hi, hm, ht, hs⟩
  refine (stat_same p g id made told last sum a b l d now w h o h1 h2 hlt).mono ?_
  rintro e w' ⟨rfl, h', t'⟩
  exact ⟨rfl, ⟨a, b, h', ⟨s0, s1, s2, s3⟩, rfl⟩, t'⟩
theorem has_new {w : World} {p g : Nat} {id made told last sum l d : Int} (h : Pd w p g id made told last sum 0 0 l d) (hl : 0 ≤ l) : Has w p g id made told last sum 0 l d := ⟨0, 0, h, ⟨by omega, by omega, by omega, by omega⟩, by omega⟩
theorem has_two {w w' : World} {p g p2 g2 : Nat} {id made told last sum n l d : Int} (h : Has w p g id made told last sum n l d) (t : Two w w' p2 g2) (n1 : p ≠ p2) (n2 : p ≠ g2) (n3 : g ≠ p2) (n4 : g ≠ g2) : Has w' p g id made told last sum n l d := by
  obtain ⟨a, b, h, s, e⟩ := h
  exact ⟨a, b, pd_two h t n1 n2 n3 n4, s, e⟩
theorem has_alloc {w : World} {p g : Nat} {id made told last sum n l d : Int} (h : Has w p g id made told last sum n l d) (o : Obj) : Has (w.alloc o) p g id made told last sum n l d := by
  obtain ⟨a, b, h, s, e⟩ := h
  exact ⟨a, b, pd_alloc h o, s, e⟩
theorem has_below {w w' : World} {p g : Nat} {id made told last sum n l d : Int} (h : Has w p g id made told last sum n l d) {B : Nat} (hb : Below B w w') (h1 : p < B) (h2 : g < B) : Has w' p g id made told last sum n l d := by
  obtain ⟨a, b, h, s, e⟩ := h
  exact ⟨a, b, ⟨Blk.below h.pod hb h1, Blk.below h.br hb h2, h.ne⟩, s, e⟩
end Go.Proofs.Ytnlfocmmnjgmpaa.D4
