/- The reference's Wrong over any settings: its region. The reference's May over any settings: it is conf.May. -/
import Derived.Test.YtdgphoemjeakaaaGreatDoorR09
namespace Go.Proofs.YtdgphoemjeakaaaGreatDoor.Mg
open Go.RowKit K W Rg P
noncomputable def opsR : Array Oper := reg Tryz.f38 5
noncomputable def layR (v : Nat → Int) (tp : Int) (g9 g13 : Bool) (B N : Nat) : Lay := [(some 14, .slice (some ⟨B, 0, none⟩) 20 20),
  (some 15, .pointer (some ⟨B, 0, none⟩)),
  (some 16, .int .i64 (v 0)),
  (some 17, .bool (wi (v 0) 10 1000000)),
  (some 18, .slice (some ⟨B, 0, none⟩) 20 20),
  (some 19, .pointer (some ⟨B, 1, none⟩)),
  (some 20, .int .i64 (v 1)),
  (some 21, .bool (wi (v 1) 100 1000)),
  (some 22, .slice (some ⟨B, 0, none⟩) 20 20),
  (some 23, .pointer (some ⟨B, 2, none⟩)),
  (some 24, .int .i64 (v 2)),
  (some 25, .bool (wi (v 2) 6 600)),
  (some 26, .slice (some ⟨B, 0, none⟩) 20 20),
  (some 27, .pointer (some ⟨B, 3, none⟩)),
  (some 28, .int .i64 (v 3)),
  (some 29, .slice (some ⟨B, 0, none⟩) 20 20),
  (some 30, .pointer (some ⟨B, 2, none⟩)),
  (some 31, .int .i64 (v 2)),
  (some 32, .bool (wi (v 3) 1 (v 2))),
  (some 33, .slice (some ⟨B, 0, none⟩) 20 20),
  (some 34, .pointer (some ⟨B, 4, none⟩)),
  (some 35, .int .i64 (v 4)),
  (some 36, .slice (some ⟨B, 0, none⟩) 20 20),
  (some 37, .pointer (some ⟨B, 3, none⟩)),
  (some 38, .int .i64 (v 3)),
  (some 39, .bool (wi (v 4) 1 (v 3))),
  (some 40, .slice (some ⟨B, 0, none⟩) 20 20),
  (some 41, .pointer (some ⟨B, 5, none⟩)),
  (some 42, .int .i64 (v 5)),
  (some 43, .bool (wi (v 5) 1100 10000)),
  (some 44, .slice (some ⟨B, 0, none⟩) 20 20),
  (some 45, .pointer (some ⟨B, 6, none⟩)),
  (some 46, .int .i64 (v 6)),
  (some 47, .bool (wi (v 6) 1001 1000000)),
  (some 48, .slice (some ⟨B, 0, none⟩) 20 20),
  (some 49, .pointer (some ⟨B, 7, none⟩)),
  (some 50, .int .i64 (v 7)),
  (some 51, .bool (wi (v 7) 1001 1000000)),
  (some 52, .slice (some ⟨B, 0, none⟩) 20 20),
  (some 53, .pointer (some ⟨B, 8, none⟩)),
  (some 54, .int .i64 (v 8)),
  (some 55, .bool (wi (v 8) 0 100)),
  (some 56, .slice (some ⟨B, 0, none⟩) 20 20),
  (some 57, .pointer (some ⟨B, 9, none⟩)),
  (some 58, .int .i64 (v 9)),
  (some 59, .bool g9),
  (some 60, .bool g9),
  (some 61, cond g9 undef (.slice (some ⟨B, 0, none⟩) 20 20)),
  (some 62, cond g9 undef (.pointer (some ⟨B, 9, none⟩))),
  (some 63, cond g9 undef (.int .i64 (v 9))),
  (some 64, cond g9 undef (.slice (some ⟨B, 0, none⟩) 20 20)),
  (some 65, cond g9 undef (.pointer (some ⟨B, 8, none⟩))),
  (some 66, cond g9 undef (.int .i64 (v 8))),
  (some 67, cond g9 undef (.int .i64 (max (v 8) 1))),
  (some 68, cond g9 undef (.bool (wi (v 9) (max (v 8) 1) 100))),
  (some 69, .bool (g9 || wi (v 9) (max (v 8) 1) 100)),
  (some 70, .slice (some ⟨B, 0, none⟩) 20 20),
  (some 71, .pointer (some ⟨B, 10, none⟩)),
  (some 72, .int .i64 (v 10)),
  (some 73, .int .i64 tp),
  (some 74, .bool (wi (v 10) 0 tp)),
  (some 75, .slice (some ⟨B, 0, none⟩) 20 20),
  (some 76, .pointer (some ⟨B, 11, none⟩)),
  (some 77, .int .i64 (v 11)),
  (some 78, .bool (wi (v 11) 0 600)),
  (some 79, .slice (some ⟨B, 0, none⟩) 20 20),
  (some 80, .pointer (some ⟨B, 12, none⟩)),
  (some 81, .int .i64 (v 12)),
  (some 82, .bool (wi (v 12) 0 600)),
  (some 83, .slice (some ⟨B, 0, none⟩) 20 20),
  (some 84, .pointer (some ⟨B, 13, none⟩)),
  (some 85, .int .i64 (v 13)),
  (some 86, .bool g13),
  (some 87, .bool g13),
  (some 88, cond g13 undef (.slice (some ⟨B, 0, none⟩) 20 20)),
  (some 89, cond g13 undef (.pointer (some ⟨B, 13, none⟩))),
  (some 90, cond g13 undef (.int .i64 (v 13))),
  (some 91, cond g13 undef (.bool (wi (v 13) 0 100000000))),
  (some 92, .bool (g13 || wi (v 13) 0 100000000)),
  (some 93, .slice (some ⟨B, 0, none⟩) 20 20),
  (some 94, .pointer (some ⟨B, 14, none⟩)),
  (some 95, .int .i64 (v 14)),
  (some 96, .bool (wi (v 14) 1 1000)),
  (some 97, .slice (some ⟨B, 0, none⟩) 20 20),
  (some 98, .pointer (some ⟨B, 15, none⟩)),
  (some 99, .int .i64 (v 15)),
  (some 100, .bool (wi (v 15) 0 200)),
  (some 101, .slice (some ⟨B, 0, none⟩) 20 20),
  (some 102, .pointer (some ⟨B, 16, none⟩)),
  (some 103, .int .i64 (v 16)),
  (some 104, .bool (wi (v 16) 1 10000)),
  (some 105, .slice (some ⟨B, 0, none⟩) 20 20),
  (some 106, .pointer (some ⟨B, 17, none⟩)),
  (some 107, .int .i64 (v 17)),
  (some 108, .bool (wi (v 17) 0 100)),
  (some 109, .slice (some ⟨B, 0, none⟩) 20 20),
  (some 110, .pointer (some ⟨B, 18, none⟩)),
  (some 111, .int .i64 (v 18)),
  (some 112, .bool (wi (v 18) 0 100)),
  (some 113, .slice (some ⟨B, 0, none⟩) 20 20),
  (some 114, .pointer (some ⟨B, 19, none⟩)),
  (some 115, .int .i64 (v 19)),
  (some 116, .bool (wi (v 19) 0 100)),
  (some 117, .slice (some ⟨N, 0, none⟩) 20 20),
  (some 5, .slice (some ⟨N, 0, none⟩) 20 20)]
set_option maxHeartbeats 1000000 in
theorem in_any (n lo hi : Int) (w : World) : Calls Tryz.prog 70 #[.int .i64 n, .int .i64 lo, .int .i64 hi] w fun e w' => e = .returned (.bool (wi n lo hi)) ∧ w' = w := by
  unfold wi
  by_cases h0 : lo ≤ n
  · have k0 : decide (lo ≤ n) = true := decide_eq_true h0
    go_enter Tryz.func70, Tryz.ntmps70
    go_wp2
    go_ret
    try rw [k0]
    exact ⟨rfl, rfl⟩
  · have k0 : decide (lo ≤ n) = false := decide_eq_false h0
    go_enter Tryz.func70, Tryz.ntmps70
    go_wp2
    go_ret
    try rw [k0]
    exact ⟨rfl, rfl⟩
def bools (l : List Bool) : Array Value := (l.map Value.bool).toArray
structure OnR (v : Nat → Int) (l : List Bool) (B N : Nat) (w0 : World) (L : Nat → Bool) (w : World) : Prop where
  ch : Chg No w0 w
  blk : Blk w B (cf v) 2
  pre : L 103 = false → w.heap.size = N
  post : L 103 = true → Blk w N (bools l) 4
theorem OnR.next {v : Nat → Int} {l : List Bool} {B N : Nat} {w0 : World} {L : Nat → Bool} {w : World} (h : OnR v l B N w0 L w) {i : Nat} (hi : ((103 : Nat) == i) = false) : OnR v l B N w0 (fun j => j == i || L j) w :=
  ⟨h.ch, h.blk, by simp only [hi, Bool.false_or]; exact h.pre, by simp only [hi, Bool.false_or]; exact h.post⟩
set_option maxHeartbeats 8000000 in
set_option maxRecDepth 1000000 in
theorem wp_ref {id : Nat} {Q : Exit → Act → World → Prop} {v : Nat → Int} {tp : Int} {g9 g13 : Bool} {B : Nat} {t0 : Array Value} {w1 : World} (h9 : (v 9 == 0) = g9) (h13 : (v 13 == -1000) = g13) (hs : t0.size = 133) (h3 : t0[3]? = some (.slice (some ⟨B, 0, none⟩) 20 20)) (h4 : t0[4]? = some (.int .i64 tp)) (hb : Blk w1 B (cf v) 2)
    (hend : ∀ w', Chg No w1 w' → Blk w' w1.heap.size (bools (pbs v tp)) 4 → Q .normal ⟨puts (layR v tp g9 g13 B w1.heap.size) t0, []⟩ w') : (Code.region id opsR true).wp Tryz.prog Q ⟨t0, []⟩ w1 := by
  have sz : opsR.size = 105 := by kernel_rfl
  have F : Flows (X := Unit) opsR (fun _ => layR v tp g9 g13 B w1.heap.size) [(3, .slice (some ⟨B, 0, none⟩) 20 20), (4, .int .i64 tp)] t0 3 := Flows.of (by kernel_rfl) hs (fun _ => by kernel_rfl) (.cons h3 (.cons h4 .nil))
  refine wp_flow (Wd := fun _ L w => OnR v (pbs v tp) B w1.heap.size w1 L w) F rfl () ⟨(Chg.refl No w1).drew, hb, fun _ => rfl, fun h => nomatch h⟩ (fun i hi => ?_) (fun x L w' hl hw => hend w' hw.ch (hw.post (hl 103 (by rw [sz]; decide))))
  rw [sz] at hi
  generalize w1.heap.size = N at *
  cases g9 <;> cases g13
  all_goals
    match i, hi with
    | 0, _ => exact stepP F rfl (fun _ => rfl) (fun _ _ => by kernel_rfl) (fun _ => rfl) (fun _ _ _ h => h.next rfl)
    | 1, _ => exact stepP F rfl (fun _ => rfl) (fun _ _ => by kernel_rfl) (fun _ => rfl) (fun _ _ _ h => h.next rfl)
    | 2, _ => exact stepL (fun _ => ⟨B, 0, none⟩) F rfl (fun _ => rfl) (fun _ => rfl) rfl (fun _ => rfl) Tryz.underlying2 rfl (fun _ _ _ _ _ _ h => ⟨h.blk.cell 0, h.next rfl⟩)
    | 3, _ => exact stepC 70 (fun _ => #[.int .i64 (v 0), .int .i64 10, .int .i64 1000000]) F rfl (fun _ => rfl) (fun _ => rfl) (fun _ _ => by kernel_rfl) (fun _ _ w _ _ _ h => (in_any _ _ _ w).mono fun _ _ ⟨he, hw⟩ => ⟨he, hw ▸ h.next rfl⟩)
    | 4, _ => exact stepP F rfl (fun _ => rfl) (fun _ _ => by kernel_rfl) (fun _ => rfl) (fun _ _ _ h => h.next rfl)
    | 5, _ => exact stepP F rfl (fun _ => rfl) (fun _ _ => by kernel_rfl) (fun _ => rfl) (fun _ _ _ h => h.next rfl)
    | 6, _ => exact stepL (fun _ => ⟨B, 1, none⟩) F rfl (fun _ => rfl) (fun _ => rfl) rfl (fun _ => rfl) Tryz.underlying2 rfl (fun _ _ _ _ _ _ h => ⟨h.blk.cell 1, h.next rfl⟩)
    | 7, _ => exact stepC 70 (fun _ => #[.int .i64 (v 1), .int .i64 100, .int .i64 1000]) F rfl (fun _ => rfl) (fun _ => rfl) (fun _ _ => by kernel_rfl) (fun _ _ w _ _ _ h => (in_any _ _ _ w).mono fun _ _ ⟨he, hw⟩ => ⟨he, hw ▸ h.next rfl⟩)
    | 8, _ => exact stepP F rfl (fun _ => rfl) (fun _ _ => by kernel_rfl) (fun _ => rfl) (fun _ _ _ h => h.next rfl)
    | 9, _ => exact stepP F rfl (fun _ => rfl) (fun _ _ => by kernel_rfl) (fun _ => rfl) (fun _ _ _ h => h.next rfl)
    | 10, _ => exact stepL (fun _ => ⟨B, 2, none⟩) F rfl (fun _ => rfl) (fun _ => rfl) rfl (fun _ => rfl) Tryz.underlying2 rfl (fun _ _ _ _ _ _ h => ⟨h.blk.cell 2, h.next rfl⟩)
    | 11, _ => exact stepC 70 (fun _ => #[.int .i64 (v 2), .int .i64 6, .int .i64 600]) F rfl (fun _ => rfl) (fun _ => rfl) (fun _ _ => by kernel_rfl) (fun _ _ w _ _ _ h => (in_any _ _ _ w).mono fun _ _ ⟨he, hw⟩ => ⟨he, hw ▸ h.next rfl⟩)
    | 12, _ => exact stepP F rfl (fun _ => rfl) (fun _ _ => by kernel_rfl) (fun _ => rfl) (fun _ _ _ h => h.next rfl)
    | 13, _ => exact stepP F rfl (fun _ => rfl) (fun _ _ => by kernel_rfl) (fun _ => rfl) (fun _ _ _ h => h.next rfl)
    | 14, _ => exact stepL (fun _ => ⟨B, 3, none⟩) F rfl (fun _ => rfl) (fun _ => rfl) rfl (fun _ => rfl) Tryz.underlying2 rfl (fun _ _ _ _ _ _ h => ⟨h.blk.cell 3, h.next rfl⟩)
    | 15, _ => exact stepP F rfl (fun _ => rfl) (fun _ _ => by kernel_rfl) (fun _ => rfl) (fun _ _ _ h => h.next rfl)
    | 16, _ => exact stepP F rfl (fun _ => rfl) (fun _ _ => by kernel_rfl) (fun _ => rfl) (fun _ _ _ h => h.next rfl)
    | 17, _ => exact stepL (fun _ => ⟨B, 2, none⟩) F rfl (fun _ => rfl) (fun _ => rfl) rfl (fun _ => rfl) Tryz.underlying2 rfl (fun _ _ _ _ _ _ h => ⟨h.blk.cell 2, h.next rfl⟩)
    | 18, _ => exact stepC 70 (fun _ => #[.int .i64 (v 3), .int .i64 1, .int .i64 (v 2)]) F rfl (fun _ => rfl) (fun _ => rfl) (fun _ _ => by kernel_rfl) (fun _ _ w _ _ _ h => (in_any _ _ _ w).mono fun _ _ ⟨he, hw⟩ => ⟨he, hw ▸ h.next rfl⟩)
    | 19, _ => exact stepP F rfl (fun _ => rfl) (fun _ _ => by kernel_rfl) (fun _ => rfl) (fun _ _ _ h => h.next rfl)
    | 20, _ => exact stepP F rfl (fun _ => rfl) (fun _ _ => by kernel_rfl) (fun _ => rfl) (fun _ _ _ h => h.next rfl)
    | 21, _ => exact stepL (fun _ => ⟨B, 4, none⟩) F rfl (fun _ => rfl) (fun _ => rfl) rfl (fun _ => rfl) Tryz.underlying2 rfl (fun _ _ _ _ _ _ h => ⟨h.blk.cell 4, h.next rfl⟩)
    | 22, _ => exact stepP F rfl (fun _ => rfl) (fun _ _ => by kernel_rfl) (fun _ => rfl) (fun _ _ _ h => h.next rfl)
    | 23, _ => exact stepP F rfl (fun _ => rfl) (fun _ _ => by kernel_rfl) (fun _ => rfl) (fun _ _ _ h => h.next rfl)
    | 24, _ => exact stepL (fun _ => ⟨B, 3, none⟩) F rfl (fun _ => rfl) (fun _ => rfl) rfl (fun _ => rfl) Tryz.underlying2 rfl (fun _ _ _ _ _ _ h => ⟨h.blk.cell 3, h.next rfl⟩)
    | 25, _ => exact stepC 70 (fun _ => #[.int .i64 (v 4), .int .i64 1, .int .i64 (v 3)]) F rfl (fun _ => rfl) (fun _ => rfl) (fun _ _ => by kernel_rfl) (fun _ _ w _ _ _ h => (in_any _ _ _ w).mono fun _ _ ⟨he, hw⟩ => ⟨he, hw ▸ h.next rfl⟩)
    | 26, _ => exact stepP F rfl (fun _ => rfl) (fun _ _ => by kernel_rfl) (fun _ => rfl) (fun _ _ _ h => h.next rfl)
    | 27, _ => exact stepP F rfl (fun _ => rfl) (fun _ _ => by kernel_rfl) (fun _ => rfl) (fun _ _ _ h => h.next rfl)
    | 28, _ => exact stepL (fun _ => ⟨B, 5, none⟩) F rfl (fun _ => rfl) (fun _ => rfl) rfl (fun _ => rfl) Tryz.underlying2 rfl (fun _ _ _ _ _ _ h => ⟨h.blk.cell 5, h.next rfl⟩)
    | 29, _ => exact stepC 70 (fun _ => #[.int .i64 (v 5), .int .i64 1100, .int .i64 10000]) F rfl (fun _ => rfl) (fun _ => rfl) (fun _ _ => by kernel_rfl) (fun _ _ w _ _ _ h => (in_any _ _ _ w).mono fun _ _ ⟨he, hw⟩ => ⟨he, hw ▸ h.next rfl⟩)
    | 30, _ => exact stepP F rfl (fun _ => rfl) (fun _ _ => by kernel_rfl) (fun _ => rfl) (fun _ _ _ h => h.next rfl)
    | 31, _ => exact stepP F rfl (fun _ => rfl) (fun _ _ => by kernel_rfl) (fun _ => rfl) (fun _ _ _ h => h.next rfl)
    | 32, _ => exact stepL (fun _ => ⟨B, 6, none⟩) F rfl (fun _ => rfl) (fun _ => rfl) rfl (fun _ => rfl) Tryz.underlying2 rfl (fun _ _ _ _ _ _ h => ⟨h.blk.cell 6, h.next rfl⟩)
    | 33, _ => exact stepC 70 (fun _ => #[.int .i64 (v 6), .int .i64 1001, .int .i64 1000000]) F rfl (fun _ => rfl) (fun _ => rfl) (fun _ _ => by kernel_rfl) (fun _ _ w _ _ _ h => (in_any _ _ _ w).mono fun _ _ ⟨he, hw⟩ => ⟨he, hw ▸ h.next rfl⟩)
    | 34, _ => exact stepP F rfl (fun _ => rfl) (fun _ _ => by kernel_rfl) (fun _ => rfl) (fun _ _ _ h => h.next rfl)
    | 35, _ => exact stepP F rfl (fun _ => rfl) (fun _ _ => by kernel_rfl) (fun _ => rfl) (fun _ _ _ h => h.next rfl)
    | 36, _ => exact stepL (fun _ => ⟨B, 7, none⟩) F rfl (fun _ => rfl) (fun _ => rfl) rfl (fun _ => rfl) Tryz.underlying2 rfl (fun _ _ _ _ _ _ h => ⟨h.blk.cell 7, h.next rfl⟩)
    | 37, _ => exact stepC 70 (fun _ => #[.int .i64 (v 7), .int .i64 1001, .int .i64 1000000]) F rfl (fun _ => rfl) (fun _ => rfl) (fun _ _ => by kernel_rfl) (fun _ _ w _ _ _ h => (in_any _ _ _ w).mono fun _ _ ⟨he, hw⟩ => ⟨he, hw ▸ h.next rfl⟩)
    | 38, _ => exact stepP F rfl (fun _ => rfl) (fun _ _ => by kernel_rfl) (fun _ => rfl) (fun _ _ _ h => h.next rfl)
    | 39, _ => exact stepP F rfl (fun _ => rfl) (fun _ _ => by kernel_rfl) (fun _ => rfl) (fun _ _ _ h => h.next rfl)
    | 40, _ => exact stepL (fun _ => ⟨B, 8, none⟩) F rfl (fun _ => rfl) (fun _ => rfl) rfl (fun _ => rfl) Tryz.underlying2 rfl (fun _ _ _ _ _ _ h => ⟨h.blk.cell 8, h.next rfl⟩)
    | 41, _ => exact stepC 70 (fun _ => #[.int .i64 (v 8), .int .i64 0, .int .i64 100]) F rfl (fun _ => rfl) (fun _ => rfl) (fun _ _ => by kernel_rfl) (fun _ _ w _ _ _ h => (in_any _ _ _ w).mono fun _ _ ⟨he, hw⟩ => ⟨he, hw ▸ h.next rfl⟩)
    | 42, _ => exact stepP F rfl (fun _ => rfl) (fun _ _ => by kernel_rfl) (fun _ => rfl) (fun _ _ _ h => h.next rfl)
    | 43, _ => exact stepP F rfl (fun _ => rfl) (fun _ _ => by kernel_rfl) (fun _ => rfl) (fun _ _ _ h => h.next rfl)
    | 44, _ => exact stepL (fun _ => ⟨B, 9, none⟩) F rfl (fun _ => rfl) (fun _ => rfl) rfl (fun _ => rfl) Tryz.underlying2 rfl (fun _ _ _ _ _ _ h => ⟨h.blk.cell 9, h.next rfl⟩)
    | 45, _ => exact stepP F rfl (fun _ => rfl) (fun _ w => Eq.trans (b := .ok (.value (.bool (v 9 == 0))) w) (by kernel_rfl) (by rw [h9])) (fun _ => rfl) (fun _ _ _ h => h.next rfl)
    | 46, _ => exact stepP F rfl (fun _ => rfl) (fun _ _ => by kernel_rfl) (fun _ => rfl) (fun _ _ _ h => h.next rfl)
    | 47, _ => first | exact stepP F rfl (fun _ => rfl) (fun _ _ => by kernel_rfl) (fun _ => rfl) (fun _ _ _ h => h.next rfl) | exact stepN F rfl (fun _ => rfl) (fun _ => rfl) (fun _ _ _ h => h.next rfl)
    | 48, _ => first | exact stepP F rfl (fun _ => rfl) (fun _ _ => by kernel_rfl) (fun _ => rfl) (fun _ _ _ h => h.next rfl) | exact stepN F rfl (fun _ => rfl) (fun _ => rfl) (fun _ _ _ h => h.next rfl)
    | 49, _ => first | exact stepL (fun _ => ⟨B, 9, none⟩) F rfl (fun _ => rfl) (fun _ => rfl) rfl (fun _ => rfl) Tryz.underlying2 rfl (fun _ _ _ _ _ _ h => ⟨h.blk.cell 9, h.next rfl⟩) | exact stepN F rfl (fun _ => rfl) (fun _ => rfl) (fun _ _ _ h => h.next rfl)
    | 50, _ => first | exact stepP F rfl (fun _ => rfl) (fun _ _ => by kernel_rfl) (fun _ => rfl) (fun _ _ _ h => h.next rfl) | exact stepN F rfl (fun _ => rfl) (fun _ => rfl) (fun _ _ _ h => h.next rfl)
    | 51, _ => first | exact stepP F rfl (fun _ => rfl) (fun _ _ => by kernel_rfl) (fun _ => rfl) (fun _ _ _ h => h.next rfl) | exact stepN F rfl (fun _ => rfl) (fun _ => rfl) (fun _ _ _ h => h.next rfl)
    | 52, _ => first | exact stepL (fun _ => ⟨B, 8, none⟩) F rfl (fun _ => rfl) (fun _ => rfl) rfl (fun _ => rfl) Tryz.underlying2 rfl (fun _ _ _ _ _ _ h => ⟨h.blk.cell 8, h.next rfl⟩) | exact stepN F rfl (fun _ => rfl) (fun _ => rfl) (fun _ _ _ h => h.next rfl)
    | 53, _ => first | exact stepP F rfl (fun _ => rfl) (fun _ w => Eq.trans (b := .ok (.value (.int .i64 (if 1 > v 8 then 1 else v 8))) w) (by kernel_rfl) (by rw [show (if 1 > v 8 then 1 else v 8) = max (v 8) 1 by split <;> omega]; rfl)) (fun _ => rfl) (fun _ _ _ h => h.next rfl) | exact stepN F rfl (fun _ => rfl) (fun _ => rfl) (fun _ _ _ h => h.next rfl)
    | 54, _ => first | exact stepC 70 (fun _ => #[.int .i64 (v 9), .int .i64 (max (v 8) 1), .int .i64 100]) F rfl (fun _ => rfl) (fun _ => rfl) (fun _ _ => by kernel_rfl) (fun _ _ w _ _ _ h => (in_any _ _ _ w).mono fun _ _ ⟨he, hw⟩ => ⟨he, hw ▸ h.next rfl⟩) | exact stepN F rfl (fun _ => rfl) (fun _ => rfl) (fun _ _ _ h => h.next rfl)
    | 55, _ => exact stepP F rfl (fun _ => rfl) (fun _ _ => by kernel_rfl) (fun _ => rfl) (fun _ _ _ h => h.next rfl)
    | 56, _ => exact stepP F rfl (fun _ => rfl) (fun _ _ => by kernel_rfl) (fun _ => rfl) (fun _ _ _ h => h.next rfl)
    | 57, _ => exact stepP F rfl (fun _ => rfl) (fun _ _ => by kernel_rfl) (fun _ => rfl) (fun _ _ _ h => h.next rfl)
    | 58, _ => exact stepL (fun _ => ⟨B, 10, none⟩) F rfl (fun _ => rfl) (fun _ => rfl) rfl (fun _ => rfl) Tryz.underlying2 rfl (fun _ _ _ _ _ _ h => ⟨h.blk.cell 10, h.next rfl⟩)
    | 59, _ => exact stepP F rfl (fun _ => rfl) (fun _ _ => by kernel_rfl) (fun _ => rfl) (fun _ _ _ h => h.next rfl)
    | 60, _ => exact stepC 70 (fun _ => #[.int .i64 (v 10), .int .i64 0, .int .i64 tp]) F rfl (fun _ => rfl) (fun _ => rfl) (fun _ _ => by kernel_rfl) (fun _ _ w _ _ _ h => (in_any _ _ _ w).mono fun _ _ ⟨he, hw⟩ => ⟨he, hw ▸ h.next rfl⟩)
    | 61, _ => exact stepP F rfl (fun _ => rfl) (fun _ _ => by kernel_rfl) (fun _ => rfl) (fun _ _ _ h => h.next rfl)
    | 62, _ => exact stepP F rfl (fun _ => rfl) (fun _ _ => by kernel_rfl) (fun _ => rfl) (fun _ _ _ h => h.next rfl)
    | 63, _ => exact stepL (fun _ => ⟨B, 11, none⟩) F rfl (fun _ => rfl) (fun _ => rfl) rfl (fun _ => rfl) Tryz.underlying2 rfl (fun _ _ _ _ _ _ h => ⟨h.blk.cell 11, h.next rfl⟩)
    | 64, _ => exact stepC 70 (fun _ => #[.int .i64 (v 11), .int .i64 0, .int .i64 600]) F rfl (fun _ => rfl) (fun _ => rfl) (fun _ _ => by kernel_rfl) (fun _ _ w _ _ _ h => (in_any _ _ _ w).mono fun _ _ ⟨he, hw⟩ => ⟨he, hw ▸ h.next rfl⟩)
    | 65, _ => exact stepP F rfl (fun _ => rfl) (fun _ _ => by kernel_rfl) (fun _ => rfl) (fun _ _ _ h => h.next rfl)
    | 66, _ => exact stepP F rfl (fun _ => rfl) (fun _ _ => by kernel_rfl) (fun _ => rfl) (fun _ _ _ h => h.next rfl)
    | 67, _ => exact stepL (fun _ => ⟨B, 12, none⟩) F rfl (fun _ => rfl) (fun _ => rfl) rfl (fun _ => rfl) Tryz.underlying2 rfl (fun _ _ _ _ _ _ h => ⟨h.blk.cell 12, h.next rfl⟩)
    | 68, _ => exact stepC 70 (fun _ => #[.int .i64 (v 12), .int .i64 0, .int .i64 600]) F rfl (fun _ => rfl) (fun _ => rfl) (fun _ _ => by kernel_rfl) (fun _ _ w _ _ _ h => (in_any _ _ _ w).mono fun _ _ ⟨he, hw⟩ => ⟨he, hw ▸ h.next rfl⟩)
    | 69, _ => exact stepP F rfl (fun _ => rfl) (fun _ _ => by kernel_rfl) (fun _ => rfl) (fun _ _ _ h => h.next rfl)
    | 70, _ => exact stepP F rfl (fun _ => rfl) (fun _ _ => by kernel_rfl) (fun _ => rfl) (fun _ _ _ h => h.next rfl)
    | 71, _ => exact stepL (fun _ => ⟨B, 13, none⟩) F rfl (fun _ => rfl) (fun _ => rfl) rfl (fun _ => rfl) Tryz.underlying2 rfl (fun _ _ _ _ _ _ h => ⟨h.blk.cell 13, h.next rfl⟩)
    | 72, _ => exact stepP F rfl (fun _ => rfl) (fun _ w => Eq.trans (b := .ok (.value (.bool (v 13 == -1000))) w) (by kernel_rfl) (by rw [h13])) (fun _ => rfl) (fun _ _ _ h => h.next rfl)
    | 73, _ => exact stepP F rfl (fun _ => rfl) (fun _ _ => by kernel_rfl) (fun _ => rfl) (fun _ _ _ h => h.next rfl)
    | 74, _ => first | exact stepP F rfl (fun _ => rfl) (fun _ _ => by kernel_rfl) (fun _ => rfl) (fun _ _ _ h => h.next rfl) | exact stepN F rfl (fun _ => rfl) (fun _ => rfl) (fun _ _ _ h => h.next rfl)
    | 75, _ => first | exact stepP F rfl (fun _ => rfl) (fun _ _ => by kernel_rfl) (fun _ => rfl) (fun _ _ _ h => h.next rfl) | exact stepN F rfl (fun _ => rfl) (fun _ => rfl) (fun _ _ _ h => h.next rfl)
    | 76, _ => first | exact stepL (fun _ => ⟨B, 13, none⟩) F rfl (fun _ => rfl) (fun _ => rfl) rfl (fun _ => rfl) Tryz.underlying2 rfl (fun _ _ _ _ _ _ h => ⟨h.blk.cell 13, h.next rfl⟩) | exact stepN F rfl (fun _ => rfl) (fun _ => rfl) (fun _ _ _ h => h.next rfl)
    | 77, _ => first | exact stepC 70 (fun _ => #[.int .i64 (v 13), .int .i64 0, .int .i64 100000000]) F rfl (fun _ => rfl) (fun _ => rfl) (fun _ _ => by kernel_rfl) (fun _ _ w _ _ _ h => (in_any _ _ _ w).mono fun _ _ ⟨he, hw⟩ => ⟨he, hw ▸ h.next rfl⟩) | exact stepN F rfl (fun _ => rfl) (fun _ => rfl) (fun _ _ _ h => h.next rfl)
    | 78, _ => exact stepP F rfl (fun _ => rfl) (fun _ _ => by kernel_rfl) (fun _ => rfl) (fun _ _ _ h => h.next rfl)
    | 79, _ => exact stepP F rfl (fun _ => rfl) (fun _ _ => by kernel_rfl) (fun _ => rfl) (fun _ _ _ h => h.next rfl)
    | 80, _ => exact stepP F rfl (fun _ => rfl) (fun _ _ => by kernel_rfl) (fun _ => rfl) (fun _ _ _ h => h.next rfl)
    | 81, _ => exact stepL (fun _ => ⟨B, 14, none⟩) F rfl (fun _ => rfl) (fun _ => rfl) rfl (fun _ => rfl) Tryz.underlying2 rfl (fun _ _ _ _ _ _ h => ⟨h.blk.cell 14, h.next rfl⟩)
    | 82, _ => exact stepC 70 (fun _ => #[.int .i64 (v 14), .int .i64 1, .int .i64 1000]) F rfl (fun _ => rfl) (fun _ => rfl) (fun _ _ => by kernel_rfl) (fun _ _ w _ _ _ h => (in_any _ _ _ w).mono fun _ _ ⟨he, hw⟩ => ⟨he, hw ▸ h.next rfl⟩)
    | 83, _ => exact stepP F rfl (fun _ => rfl) (fun _ _ => by kernel_rfl) (fun _ => rfl) (fun _ _ _ h => h.next rfl)
    | 84, _ => exact stepP F rfl (fun _ => rfl) (fun _ _ => by kernel_rfl) (fun _ => rfl) (fun _ _ _ h => h.next rfl)
    | 85, _ => exact stepL (fun _ => ⟨B, 15, none⟩) F rfl (fun _ => rfl) (fun _ => rfl) rfl (fun _ => rfl) Tryz.underlying2 rfl (fun _ _ _ _ _ _ h => ⟨h.blk.cell 15, h.next rfl⟩)
    | 86, _ => exact stepC 70 (fun _ => #[.int .i64 (v 15), .int .i64 0, .int .i64 200]) F rfl (fun _ => rfl) (fun _ => rfl) (fun _ _ => by kernel_rfl) (fun _ _ w _ _ _ h => (in_any _ _ _ w).mono fun _ _ ⟨he, hw⟩ => ⟨he, hw ▸ h.next rfl⟩)
    | 87, _ => exact stepP F rfl (fun _ => rfl) (fun _ _ => by kernel_rfl) (fun _ => rfl) (fun _ _ _ h => h.next rfl)
    | 88, _ => exact stepP F rfl (fun _ => rfl) (fun _ _ => by kernel_rfl) (fun _ => rfl) (fun _ _ _ h => h.next rfl)
    | 89, _ => exact stepL (fun _ => ⟨B, 16, none⟩) F rfl (fun _ => rfl) (fun _ => rfl) rfl (fun _ => rfl) Tryz.underlying2 rfl (fun _ _ _ _ _ _ h => ⟨h.blk.cell 16, h.next rfl⟩)
    | 90, _ => exact stepC 70 (fun _ => #[.int .i64 (v 16), .int .i64 1, .int .i64 10000]) F rfl (fun _ => rfl) (fun _ => rfl) (fun _ _ => by kernel_rfl) (fun _ _ w _ _ _ h => (in_any _ _ _ w).mono fun _ _ ⟨he, hw⟩ => ⟨he, hw ▸ h.next rfl⟩)
    | 91, _ => exact stepP F rfl (fun _ => rfl) (fun _ _ => by kernel_rfl) (fun _ => rfl) (fun _ _ _ h => h.next rfl)
    | 92, _ => exact stepP F rfl (fun _ => rfl) (fun _ _ => by kernel_rfl) (fun _ => rfl) (fun _ _ _ h => h.next rfl)
    | 93, _ => exact stepL (fun _ => ⟨B, 17, none⟩) F rfl (fun _ => rfl) (fun _ => rfl) rfl (fun _ => rfl) Tryz.underlying2 rfl (fun _ _ _ _ _ _ h => ⟨h.blk.cell 17, h.next rfl⟩)
    | 94, _ => exact stepC 70 (fun _ => #[.int .i64 (v 17), .int .i64 0, .int .i64 100]) F rfl (fun _ => rfl) (fun _ => rfl) (fun _ _ => by kernel_rfl) (fun _ _ w _ _ _ h => (in_any _ _ _ w).mono fun _ _ ⟨he, hw⟩ => ⟨he, hw ▸ h.next rfl⟩)
    | 95, _ => exact stepP F rfl (fun _ => rfl) (fun _ _ => by kernel_rfl) (fun _ => rfl) (fun _ _ _ h => h.next rfl)
    | 96, _ => exact stepP F rfl (fun _ => rfl) (fun _ _ => by kernel_rfl) (fun _ => rfl) (fun _ _ _ h => h.next rfl)
    | 97, _ => exact stepL (fun _ => ⟨B, 18, none⟩) F rfl (fun _ => rfl) (fun _ => rfl) rfl (fun _ => rfl) Tryz.underlying2 rfl (fun _ _ _ _ _ _ h => ⟨h.blk.cell 18, h.next rfl⟩)
    | 98, _ => exact stepC 70 (fun _ => #[.int .i64 (v 18), .int .i64 0, .int .i64 100]) F rfl (fun _ => rfl) (fun _ => rfl) (fun _ _ => by kernel_rfl) (fun _ _ w _ _ _ h => (in_any _ _ _ w).mono fun _ _ ⟨he, hw⟩ => ⟨he, hw ▸ h.next rfl⟩)
    | 99, _ => exact stepP F rfl (fun _ => rfl) (fun _ _ => by kernel_rfl) (fun _ => rfl) (fun _ _ _ h => h.next rfl)
    | 100, _ => exact stepP F rfl (fun _ => rfl) (fun _ _ => by kernel_rfl) (fun _ => rfl) (fun _ _ _ h => h.next rfl)
    | 101, _ => exact stepL (fun _ => ⟨B, 19, none⟩) F rfl (fun _ => rfl) (fun _ => rfl) rfl (fun _ => rfl) Tryz.underlying2 rfl (fun _ _ _ _ _ _ h => ⟨h.blk.cell 19, h.next rfl⟩)
    | 102, _ => exact stepC 70 (fun _ => #[.int .i64 (v 19), .int .i64 0, .int .i64 100]) F rfl (fun _ => rfl) (fun _ => rfl) (fun _ _ => by kernel_rfl) (fun _ _ w _ _ _ h => (in_any _ _ _ w).mono fun _ _ ⟨he, hw⟩ => ⟨he, hw ▸ h.next rfl⟩)
    | 103, _ => exact stepR F rfl (fun _ => rfl) (fun _ => rfl) (fun _ L w h1 _ _ h => by rw [show (execOp _ _).run Tryz.prog w = .ok (.value (.slice (some ⟨w.heap.size, 0, none⟩) 20 20)) (w.alloc (.cells (bools (pbs v tp)) 4)) by unfold pbs; rw [h9, h13]; kernel_rfl]; exact ⟨.inr (by rw [h.pre h1]), h.ch.alloc _, h.blk.alloc _, (fun h => nomatch h), fun _ => h.pre h1 ▸ Blk.new w _ 4⟩)
    | 104, _ => exact stepP F rfl (fun _ => rfl) (fun _ _ => by kernel_rfl) (fun _ => rfl) (fun _ _ _ h => h.next rfl)
    | n + 105, h => exact absurd h (by omega)
end Go.Proofs.YtdgphoemjeakaaaGreatDoor.Mg
namespace Go.Proofs.YtdgphoemjeakaaaGreatDoor.Mg
open Go.RowKit K W Rg P
def topR (v : Nat → Int) : Int := if 0 < v 9 then v 9 else 100
theorem ref_same (v : Nat → Int) : (pbs v (topR v)).all id = mayB v := by
  unfold mayB
  by_cases h : 0 < v 9
  · have : topR v = topI v := by
      unfold topR topI
      rw [if_pos h, if_neg (by simp; omega)]
    rw [this]
  · by_cases h0 : v 9 = 0
    · have : topR v = topI v := by
        unfold topR topI
        rw [if_neg h, if_pos (by simp [h0])]
      rw [this]
    · have e : ∀ tp, (pbs v tp)[9]? = some false := fun tp => by
        show some ((v 9 == 0) || wi (v 9) (max (v 8) 1) 100) = some false
        rw [beq_false_of_ne h0]
        unfold wi
        rw [decide_eq_false (by omega)]
        rfl
      rw [all_false (e _), all_false (e _)]
set_option maxHeartbeats 4000000 in
set_option maxRecDepth 1000000 in
theorem values_any (v : Nat → Int) (w : World) : Calls Tryz.prog 69 #[.agg (cf v)] w fun e w' => ∃ V, e = .returned (.slice (some ⟨V, 0, none⟩) 20 20) ∧ Blk w' V (cf v) 2 ∧ Chg No w w' := by
  have hb0 := Blk.new w (cf v) 24
  have HC : Hid (Chg No w (w.alloc (.cells (cf v) 24))) := (Chg.refl No w).alloc _
  have hs : (w.alloc (.cells (cf v) 24)).heap.size = w.heap.size + 1 := by simp
  go_enter Tryz.func69, Tryz.ntmps69
  go_wp2_with fail
  go_ret
  refine ⟨_, rfl, ?_, HC.out.alloc _⟩
  have h := Blk.new (w.alloc (.cells (cf v) 24)) (cf v) 2
  rw [hs] at h
  exact h
set_option maxHeartbeats 4000000 in
set_option maxRecDepth 1000000 in
theorem names_any (w : World) : Calls Tryz.prog 71 #[] w fun e w' => ∃ (N : Nat) (cs : Array Value), e = .returned (.slice (some ⟨N, 0, none⟩) 20 20) ∧ Blk w' N cs 9 ∧ (∀ k, k < 20 → ∃ x : ByteArray, cs[k]? = some (.string x) ∧ x.toList.isEmpty = false) ∧ Chg No w w' := by
  go_enter Tryz.func71, Tryz.ntmps71
  go_wp2_with fail
  go_ret
  refine ⟨_, _, rfl, Blk.new w _ 9, fun k hk => ?_, (Chg.refl No w).alloc _⟩
  match k, hk with
  | 0, _ => exact ⟨_, rfl, by rw [← decide_eq_emptyBytes]; decide⟩
  | 1, _ => exact ⟨_, rfl, by rw [← decide_eq_emptyBytes]; decide⟩
  | 2, _ => exact ⟨_, rfl, by rw [← decide_eq_emptyBytes]; decide⟩
  | 3, _ => exact ⟨_, rfl, by rw [← decide_eq_emptyBytes]; decide⟩
  | 4, _ => exact ⟨_, rfl, by rw [← decide_eq_emptyBytes]; decide⟩
  | 5, _ => exact ⟨_, rfl, by rw [← decide_eq_emptyBytes]; decide⟩
  | 6, _ => exact ⟨_, rfl, by rw [← decide_eq_emptyBytes]; decide⟩
  | 7, _ => exact ⟨_, rfl, by rw [← decide_eq_emptyBytes]; decide⟩
  | 8, _ => exact ⟨_, rfl, by rw [← decide_eq_emptyBytes]; decide⟩
  | 9, _ => exact ⟨_, rfl, by rw [← decide_eq_emptyBytes]; decide⟩
  | 10, _ => exact ⟨_, rfl, by rw [← decide_eq_emptyBytes]; decide⟩
  | 11, _ => exact ⟨_, rfl, by rw [← decide_eq_emptyBytes]; decide⟩
  | 12, _ => exact ⟨_, rfl, by rw [← decide_eq_emptyBytes]; decide⟩
  | 13, _ => exact ⟨_, rfl, by rw [← decide_eq_emptyBytes]; decide⟩
  | 14, _ => exact ⟨_, rfl, by rw [← decide_eq_emptyBytes]; decide⟩
  | 15, _ => exact ⟨_, rfl, by rw [← decide_eq_emptyBytes]; decide⟩
  | 16, _ => exact ⟨_, rfl, by rw [← decide_eq_emptyBytes]; decide⟩
  | 17, _ => exact ⟨_, rfl, by rw [← decide_eq_emptyBytes]; decide⟩
  | 18, _ => exact ⟨_, rfl, by rw [← decide_eq_emptyBytes]; decide⟩
  | 19, _ => exact ⟨_, rfl, by rw [← decide_eq_emptyBytes]; decide⟩
  | n + 20, h => exact absurd h (by omega)
theorem bools_at {l : List Bool} {k : Nat} {b : Bool} (h : l[k]? = some b) : (bools l)[k]? = some (.bool b) := by
  unfold bools
  rw [List.getElem?_toArray, List.getElem?_map, h]
  rfl
set_option maxHeartbeats 4000000 in
set_option maxRecDepth 1000000 in
theorem ref_wrong (v : Nat → Int) (w : World) : Calls Tryz.prog 38 #[.agg (cf v)] w fun e w' => ∃ s, e = .returned (.string s) ∧ s.toList.isEmpty = mayB v ∧ Chg No w w' := by
  have hb0 := Blk.new w (cf v) 24
  have HC : Hid (Chg No w (w.alloc (.cells (cf v) 24))) := (Chg.refl No w).alloc _
  by_cases h9 : 0 < v 9
  · have ht : topR v = v 9 := by unfold topR; rw [if_pos h9]
    have HT := Lib.hid ht
    have hr := rowOf_blk hb0
    rw [cf_size] at hr
    go_enter Tryz.func38, Tryz.ntmps38
    go_wp2_with fail
    generalize w.alloc (.cells (cf v) 24) = w1 at *
    generalize w.heap.size = B at *
    refine (values_any v w1).mono ?_
    rintro e w2 ⟨V, rfl, hv, hc⟩
    have HC1 := Lib.hid (HC.out.trans hc)
    have c9 : w2.cell? ⟨B, 9, none⟩ = some (.int .i64 (v 9)) := (hb0.kept hc).cell 9
    have HV := Lib.hid hv
    clear hb0 HC hc hr hv ht
    go_wp2_with fail
    simp only [List.append_eq, List.cons_append, List.nil_append]
    refine wp_ref (v := v) rfl rfl rfl rfl rfl HV.out (fun w3 hc hp => ?_)
    clear c9
    generalize w2.heap.size = N at *
    simp only [layR, puts, List.setIfInBounds_toArray, List.set_cons_succ, List.set_cons_zero]
    have HC2 := Lib.hid (HC1.out.trans hc)
    have HP := Lib.hid hp
    clear hc hp
    go_wp2_with fail
    go_loopw [6] (fun i wr => ∃ k : Nat, k ≤ 20 ∧ i = .int .i64 k ∧ Hid (Chg No w wr) ∧ Hid (Blk wr N (bools (pbs v (v 9))) 4) ∧ Hid (∀ i, i < k → (pbs v (topR v))[i]? = some true)) (fun i _ => 20 - (intOf i).toNat)
    case atStart => exact ⟨0, Nat.zero_le _, rfl, HC2.out, HP.out, fun i hi => absurd hi (by omega)⟩
    case round =>
      obtain ⟨k, hk, rfl, HC, HB, HA⟩ := hrel
      by_cases hlt : k < 20
      · obtain ⟨b, hb⟩ : ∃ b, (pbs v (v 9))[k]? = some b := ⟨_, List.getElem?_eq_getElem (by rw [pbs_len]; exact hlt)⟩
        have e1 : wr.cell? ⟨N, k, none⟩ = some (.bool b) := by rw [Blk.cell HB.out]; exact bools_at hb
        have HPB : Hid ((pbs v (topR v))[k]? = some b) := by rw [HT.out]; exact hb
        clear hb
        cases b with
        | false =>
          go_wp2_with fail
          refine (names_any wr).mono ?_
          rintro e w4 ⟨M, cs, rfl, hm, hn, hc⟩
          obtain ⟨x, hx, hne⟩ := hn k hlt
          have e2 : w4.cell? ⟨M, k, none⟩ = some (.string x) := by rw [hm.cell]; exact hx
          have HNE := Lib.hid hne
          have HC4 := Lib.hid (HC.out.trans hc)
          clear hm hn hx hne hc
          go_wp2_with fail
          go_ret
          exact ⟨x, rfl, by rw [HNE.out, ← ref_same]; exact (all_false HPB.out).symm, HC4.out⟩
        | true =>
          go_wp2_with fail
          go_roundw
          case rel =>
            refine ⟨k + 1, by omega, by go_num, HC.out, HB.out, fun i hi => ?_⟩
            by_cases e : i = k
            · rw [e]; exact HPB.out
            · exact HA.out i (by omega)
          case measure => simp [intOf]; omega
      · obtain rfl : k = 20 := by omega
        go_wp2_with fail
        go_ret
        exact ⟨_, rfl, by rw [← decide_eq_emptyBytes, ← ref_same]; exact (all_true (pbs_len _ _) HA.out).symm, HC.out⟩
  · have ht : topR v = 100 := by unfold topR; rw [if_neg h9]
    have HT := Lib.hid ht
    have hr := rowOf_blk hb0
    rw [cf_size] at hr
    go_enter Tryz.func38, Tryz.ntmps38
    go_wp2_with fail
    generalize w.alloc (.cells (cf v) 24) = w1 at *
    generalize w.heap.size = B at *
    refine (values_any v w1).mono ?_
    rintro e w2 ⟨V, rfl, hv, hc⟩
    have HC1 := Lib.hid (HC.out.trans hc)
    have c9 : w2.cell? ⟨B, 9, none⟩ = some (.int .i64 (v 9)) := (hb0.kept hc).cell 9
    have HV := Lib.hid hv
    clear hb0 HC hc hr hv ht
    go_wp2_with fail
    simp only [List.append_eq, List.cons_append, List.nil_append]
    refine wp_ref (v := v) rfl rfl rfl rfl rfl HV.out (fun w3 hc hp => ?_)
    clear c9
    generalize w2.heap.size = N at *
    simp only [layR, puts, List.setIfInBounds_toArray, List.set_cons_succ, List.set_cons_zero]
    have HC2 := Lib.hid (HC1.out.trans hc)
    have HP := Lib.hid hp
    clear hc hp
    go_wp2_with fail
    go_loopw [6] (fun i wr => ∃ k : Nat, k ≤ 20 ∧ i = .int .i64 k ∧ Hid (Chg No w wr) ∧ Hid (Blk wr N (bools (pbs v (100))) 4) ∧ Hid (∀ i, i < k → (pbs v (topR v))[i]? = some true)) (fun i _ => 20 - (intOf i).toNat)
    case atStart => exact ⟨0, Nat.zero_le _, rfl, HC2.out, HP.out, fun i hi => absurd hi (by omega)⟩
    case round =>
      obtain ⟨k, hk, rfl, HC, HB, HA⟩ := hrel
      by_cases hlt : k < 20
      · obtain ⟨b, hb⟩ : ∃ b, (pbs v (100))[k]? = some b := ⟨_, List.getElem?_eq_getElem (by rw [pbs_len]; exact hlt)⟩
        have e1 : wr.cell? ⟨N, k, none⟩ = some (.bool b) := by rw [Blk.cell HB.out]; exact bools_at hb
        have HPB : Hid ((pbs v (topR v))[k]? = some b) := by rw [HT.out]; exact hb
        clear hb
        cases b with
        | false =>
          go_wp2_with fail
          refine (names_any wr).mono ?_
          rintro e w4 ⟨M, cs, rfl, hm, hn, hc⟩
          obtain ⟨x, hx, hne⟩ := hn k hlt
          have e2 : w4.cell? ⟨M, k, none⟩ = some (.string x) := by rw [hm.cell]; exact hx
          have HNE := Lib.hid hne
          have HC4 := Lib.hid (HC.out.trans hc)
          clear hm hn hx hne hc
          go_wp2_with fail
          go_ret
          exact ⟨x, rfl, by rw [HNE.out, ← ref_same]; exact (all_false HPB.out).symm, HC4.out⟩
        | true =>
          go_wp2_with fail
          go_roundw
          case rel =>
            refine ⟨k + 1, by omega, by go_num, HC.out, HB.out, fun i hi => ?_⟩
            by_cases e : i = k
            · rw [e]; exact HPB.out
            · exact HA.out i (by omega)
          case measure => simp [intOf]; omega
      · obtain rfl : k = 20 := by omega
        go_wp2_with fail
        go_ret
        exact ⟨_, rfl, by rw [← decide_eq_emptyBytes, ← ref_same]; exact (all_true (pbs_len _ _) HA.out).symm, HC.out⟩
set_option maxHeartbeats 1000000 in
theorem ref_may (v : Nat → Int) (w : World) : Calls Tryz.prog 15 #[.agg (cf v)] w fun e w' => e = .returned (.bool (mayB v)) ∧ Chg No w w' := by
  have hr := rowOf_blk (Blk.new w (cf v) 24)
  rw [cf_size] at hr
  have HC : Hid (Chg No w (w.alloc (.cells (cf v) 24))) := (Chg.refl No w).alloc _
  go_enter Tryz.func15, Tryz.ntmps15
  go_wp2_with fail
  generalize w.alloc (.cells (cf v) 24) = w1 at *
  clear hr
  refine (ref_wrong v w1).mono ?_
  rintro e w2 ⟨s, rfl, hs, hc⟩
  have HC2 := Lib.hid (HC.out.trans hc)
  clear hc
  go_wp2_with fail
  go_ret
  exact ⟨by rw [← hs]; rfl, HC2.out⟩
end Go.Proofs.YtdgphoemjeakaaaGreatDoor.Mg
