/- How a slice of steps (structs of two or three numbers) that came in is opened. -/
import Derived.Test.YtnlfocmmnjgmpaaIn1
import Derived.Deep.Slices
import Derived.Deep.Fields
import Derived.ChangeSame
namespace Go.Proofs.Ytnlfocmmnjgmpaa.In2
open Go.ChangeShapes Go.WideShapes Go.ChangeAt Go.RowKit Go.Deep

/-- The kinds of the fields of a struct of integers. -/
def kindsOf (P : Program) (fs : Array Field) : Array (Option IntKind) := fs.map fun f => match P.underlying f.type with | some (.int k) => some k | _ => none

section
variable {H : Type} {enc : TypeId × Value → H} {P : Program} {w : World} {base : Nat}

/-- Each field of each element is an integer that lies in its cell. -/
theorem fields_of {t e : TypeId} {fs : Array Field} {ps : List MemPlace} {a : Option Addr} {len cap : Nat} {d : DataW H} (ht : P.underlying t = some (.slice e)) (he : P.underlying e = some (.struct fs))
    (hone : oneCellFields P fs = true) (hC : P.cellsOf e = fs.size) (hpos : 0 < fs.size) (kk : Nat → IntKind) (hk : ∀ j (hj : j < fs.size), P.underlying fs[j].type = some (.int (kk j)))
    (h : DataW.Trod enc P w base (fun _ => true) true t (.slice a len cap) d ps) :
    len ≤ maxLen ∧ ∃ Z : Nat → Nat → Int, ∀ i, i < len → ∃ b off, a = some ⟨b, off, none⟩ ∧ ∀ j, j < fs.size → w.cell? ⟨b, off + (i * fs.size + j), none⟩ = some (.int (kk j) (Z i j)) := by
  obtain ⟨fuel, hf⟩ := h
  rcases open_slice ht hf with ⟨h0, _⟩ | ⟨x, l, c, m, n, D, Pl, hcs, _, hl, hm, hmm, _, hi⟩
  · simp [Value.cells] at h0
    obtain ⟨rfl, rfl, rfl⟩ := h0
    exact ⟨Nat.zero_le _, fun _ _ => 0, fun i h => by omega⟩
  · simp [Value.cells] at hcs
    obtain ⟨rfl, rfl, rfl⟩ := hcs
    have hm' : m = cap := by simpa using hmm
    refine ⟨by omega, ?_⟩
    have key : ∀ i, i < len → ∀ j, j < fs.size → ∃ z : Int, w.cell? (x.add (i * fs.size + j)) = some (.int (kk j) z) := by
      intro i hil j hj
      obtain ⟨cs', hc, ht'⟩ := hi i (by omega)
      rw [hC] at hc
      obtain ⟨ys, n', _, _, hlen, hyl, hfl⟩ := DataW.trod_struct he ht'
      obtain ⟨_, hcl, hat⟩ := World.cells?_some hc
      obtain ⟨ho, hk'⟩ := hone_of hone j fs[j] (Array.getElem?_eq_getElem hj)
      have hcell := hat j hj
      have hv : cs'[j]? = some (cs'[j]'(by omega)) := List.getElem?_eq_getElem (by omega)
      have h1 := hfl j fs[j] (Array.getElem?_eq_getElem hj)
      rw [ho, hk'] at h1
      have hone' : (cs'.drop j).take 1 = [cs'[j]'(by omega)] := by
        rw [List.drop_eq_getElem_cons (by omega)]
        rfl
      rw [hone'] at h1
      have hys : ys[j]? = some (ys[j]'(by omega)) := List.getElem?_eq_getElem (by omega)
      obtain ⟨z, hz, _, _⟩ := DataW.trod_int (hk j hj) (h1.trans hys)
      refine ⟨z, ?_⟩
      rw [← Go.Deep.add_add, hcell, hv]
      simpa using hz
    have key' : ∀ i j, ∃ z : Int, i < len → j < fs.size → w.cell? (x.add (i * fs.size + j)) = some (.int (kk j) z) := by
      intro i j
      by_cases h : i < len ∧ j < fs.size
      · obtain ⟨z, hz⟩ := key i h.1 j h.2
        exact ⟨z, fun _ _ => hz⟩
      · exact ⟨0, fun h1 h2 => absurd ⟨h1, h2⟩ h⟩
    obtain ⟨Z, hZ⟩ : ∃ Z : Nat → Nat → Int, ∀ i j, i < len → j < fs.size → w.cell? (x.add (i * fs.size + j)) = some (.int (kk j) (Z i j)) := ⟨fun i j => (key' i j).choose, fun i j => (key' i j).choose_spec⟩
    refine ⟨Z, fun i hil => ?_⟩
    obtain ⟨b, off, spot⟩ := x
    have hspot : spot = none := by
      have hz := hZ 0 0 (by omega) hpos
      simp [Addr.add] at hz
      exact World.cell?_spot hz
    subst hspot
    refine ⟨b, off, rfl, fun j hj => ?_⟩
    have := hZ i j hil hj
    rwa [Go.WideShapes.add_plain] at this
end

/-- The elements of a slice of steps, each of two numbers. -/
def Ops (w : World) (a : Option Addr) (len : Nat) (K N : Nat → Int) : Prop := ∀ j, j < len → ∃ b off, a = some ⟨b, off, none⟩ ∧ w.cell? ⟨b, off + j * 2, none⟩ = some (.int .i64 (K j)) ∧ w.cell? ⟨b, off + j * 2 + 1, none⟩ = some (.int .i64 (N j))

theorem ops_of {H : Type} {enc : TypeId × Value → H} {w : World} {base : Nat} {ps : List MemPlace} {a : Option Addr} {len cap : Nat} {d : DataW H}
    (h : DataW.Trod enc Try.prog w base (fun _ => true) true 46 (.slice a len cap) d ps) : len ≤ maxLen ∧ ∃ K N, Ops w a len K N := by
  have hs : ∃ fs : Array Field, Try.prog.underlying 50 = some (.struct fs) ∧ oneCellFields Try.prog fs = true ∧ Try.prog.cellsOf 50 = fs.size ∧ fs.size = 2 ∧ kindsOf Try.prog fs = #[some .i64, some .i64] := ⟨_, Try.underlying50, by kernel_rfl, by kernel_rfl, by kernel_rfl, by kernel_rfl⟩
  obtain ⟨fs, he, hone, hC, h2, hk⟩ := hs
  have hkk : ∀ j (hj : j < fs.size), Try.prog.underlying fs[j].type = some (.int .i64) := by
    intro j hj
    have hh : (kindsOf Try.prog fs)[j]? = some (some .i64) := by
      rw [hk]
      match j, (h2 ▸ hj : j < 2) with
      | 0, _ => rfl
      | 1, _ => rfl
    unfold kindsOf at hh
    rw [Array.getElem?_map, Array.getElem?_eq_getElem hj] at hh
    simp only [Option.map_some, Option.some.injEq] at hh
    split at hh
    · rename_i k hu; rw [hu]; simp at hh; rw [hh]
    · simp at hh
  obtain ⟨hm, Z, hZ⟩ := fields_of (by kernel_rfl : Try.prog.underlying 46 = some (.slice 50)) he hone hC (by omega) (fun _ => .i64) hkk h
  refine ⟨hm, fun i => Z i 0, fun i => Z i 1, fun i hi => ?_⟩
  obtain ⟨b, off, ha, hc⟩ := hZ i hi
  rw [h2] at hc
  exact ⟨b, off, ha, hc 0 (by omega), by rw [Nat.add_assoc]; exact hc 1 (by omega)⟩

end Go.Proofs.Ytnlfocmmnjgmpaa.In2
