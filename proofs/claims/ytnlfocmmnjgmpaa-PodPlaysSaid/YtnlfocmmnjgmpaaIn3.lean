/- How a slice of steps of three numbers that came in is opened. -/
import Derived.Test.YtnlfocmmnjgmpaaIn2
namespace Go.Proofs.Ytnlfocmmnjgmpaa.In2
open Go.ChangeShapes Go.WideShapes Go.ChangeAt Go.RowKit Go.Deep

/-- The elements of a slice of steps, each of three numbers. -/
def Ops3 (w : World) (a : Option Addr) (len : Nat) (K N T : Nat → Int) : Prop := ∀ j, j < len → ∃ b off, a = some ⟨b, off, none⟩ ∧ w.cell? ⟨b, off + j * 3, none⟩ = some (.int .i64 (K j)) ∧ w.cell? ⟨b, off + j * 3 + 1, none⟩ = some (.int .i64 (N j)) ∧ w.cell? ⟨b, off + j * 3 + 2, none⟩ = some (.int .i64 (T j))

theorem ops3_of {H : Type} {enc : TypeId × Value → H} {w : World} {base : Nat} {ps : List MemPlace} {a : Option Addr} {len cap : Nat} {d : DataW H}
    (h : DataW.Trod enc Try.prog w base (fun _ => true) true 63 (.slice a len cap) d ps) : len ≤ maxLen ∧ ∃ K N T, Ops3 w a len K N T := by
  have hs : ∃ fs : Array Field, Try.prog.underlying 69 = some (.struct fs) ∧ oneCellFields Try.prog fs = true ∧ Try.prog.cellsOf 69 = fs.size ∧ fs.size = 3 ∧ kindsOf Try.prog fs = #[some .i64, some .i64, some .i64] := ⟨_, Try.underlying69, by kernel_rfl, by kernel_rfl, by kernel_rfl, by kernel_rfl⟩
  obtain ⟨fs, he, hone, hC, h2, hk⟩ := hs
  have hkk : ∀ j (hj : j < fs.size), Try.prog.underlying fs[j].type = some (.int .i64) := by
    intro j hj
    have hh : (kindsOf Try.prog fs)[j]? = some (some .i64) := by
      rw [hk]
      match j, (h2 ▸ hj : j < 3) with
      | 0, _ => rfl
      | 1, _ => rfl
      | 2, _ => rfl
    unfold kindsOf at hh
    rw [Array.getElem?_map, Array.getElem?_eq_getElem hj] at hh
    simp only [Option.map_some, Option.some.injEq] at hh
    split at hh
    · rename_i k hu; rw [hu]; simp at hh; rw [hh]
    · simp at hh
  obtain ⟨hm, Z, hZ⟩ := fields_of (by kernel_rfl : Try.prog.underlying 63 = some (.slice 69)) he hone hC (by omega) (fun _ => .i64) hkk h
  refine ⟨hm, fun i => Z i 0, fun i => Z i 1, fun i => Z i 2, fun i hi => ?_⟩
  obtain ⟨b, off, ha, hc⟩ := hZ i hi
  rw [h2] at hc
  exact ⟨b, off, ha, hc 0 (by omega), by rw [Nat.add_assoc]; exact hc 1 (by omega), by rw [Nat.add_assoc]; exact hc 2 (by omega)⟩

theorem wf_bd {n : Int} (h : (Lit.int .i64 n).wf = true) : n ≤ 9223372036854775807 := by
  unfold Lit.wf at h
  rw [Bool.and_eq_true, decide_eq_true_eq, decide_eq_true_eq] at h
  exact h.2
end Go.Proofs.Ytnlfocmmnjgmpaa.In2
