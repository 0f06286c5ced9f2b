/- How a slice of events (two numbers and a string each) that came in is opened. -/
import Derived.Test.YtdgphoemjeakaaaGreatDoorProg
import Derived.ProofKit
import Derived.OpenShut
import Derived.Deep.Slices
import Derived.Deep.Fields
import Derived.ChangeSame
import Derived.ChangeArms
namespace Go.Proofs.YtdgphoemjeakaaaGreatDoor.In
open Go.ChangeShapes Go.WideShapes Go.ChangeAt Go.RowKit Go.Deep
def Evs (w : World) (a : Option Addr) (len : Nat) (K N : Nat → Int) (T : Nat → ByteArray) : Prop := ∀ j, j < len → ∃ b off, a = some ⟨b, off, none⟩ ∧ w.cell? ⟨b, off + j * 3, none⟩ = some (.int .i64 (K j)) ∧ w.cell? ⟨b, off + j * 3 + 1, none⟩ = some (.int .i64 (N j)) ∧ w.cell? ⟨b, off + j * 3 + 2, none⟩ = some (.string (T j)) ∧ (T j).size ≤ maxLen
theorem evs_of {H : Type} {enc : TypeId × Value → H} {w : World} {base : Nat} {ps : List MemPlace} {a : Option Addr} {len cap : Nat} {d : DataW H}
    (h : DataW.Trod enc Tryz.prog w base (fun _ => true) true 22 (.slice a len cap) d ps) : len ≤ maxLen ∧ ∃ K N T, Evs w a len K N T := by
  have hs : ∃ f0 f1 f2 : Field, Tryz.prog.underlying 32 = some (.struct #[f0, f1, f2]) ∧ oneCellFields Tryz.prog #[f0, f1, f2] = true ∧ Tryz.prog.cellsOf 32 = 3 ∧ Tryz.prog.underlying f0.type = some (.int .i64) ∧ Tryz.prog.underlying f1.type = some (.int .i64) ∧ Tryz.prog.underlying f2.type = some .string :=
    ⟨_, _, _, Tryz.underlying32, by kernel_rfl, by kernel_rfl, by kernel_rfl, by kernel_rfl, by kernel_rfl⟩
  obtain ⟨f0, f1, f2, he, hone, hC, u0, u1, u2⟩ := hs
  have ht : Tryz.prog.underlying 22 = some (.slice 32) := by kernel_rfl
  obtain ⟨fuel, hf⟩ := h
  rcases open_slice ht hf with ⟨h0, _⟩ | ⟨x, l, c, m, n, D, Pl, hcs, _, hl, hm, hmm, _, hi⟩
  · simp [Value.cells] at h0
    obtain ⟨rfl, rfl, rfl⟩ := h0
    exact ⟨Nat.zero_le _, fun _ => 0, fun _ => 0, fun _ => ⟨#[]⟩, fun i h => by omega⟩
  · simp [Value.cells] at hcs
    obtain ⟨rfl, rfl, rfl⟩ := hcs
    have hm' : m = cap := by simpa using hmm
    refine ⟨by omega, ?_⟩
    have key : ∀ i, i < len → ∃ (k n : Int) (t : ByteArray), w.cell? (x.add (i * 3 + 0)) = some (.int .i64 k) ∧ w.cell? (x.add (i * 3 + 1)) = some (.int .i64 n) ∧ w.cell? (x.add (i * 3 + 2)) = some (.string t) ∧ t.size ≤ maxLen := by
      intro i hil
      obtain ⟨cs', hc, ht'⟩ := hi i (by omega)
      rw [hC] at hc
      obtain ⟨ys, n', _, _, hlen, hyl, hfl⟩ := DataW.trod_struct he ht'
      obtain ⟨_, hcl, hat⟩ := World.cells?_some hc
      have one : ∀ (j : Nat) (f : Field), #[f0, f1, f2][j]? = some f → ∃ v y, w.cell? (x.add (i * 3 + j)) = some v ∧ DataW.trod enc Tryz.prog w base (fun _ => true) true n' f.type [v] = some y := by
        intro j f hj
        obtain ⟨ho, hk'⟩ := hone_of hone j f hj
        have hj3 : j < 3 := by
          have := (Array.getElem?_eq_some_iff.1 hj).1
          simpa using this
        have hcell := hat j hj3
        have hv : cs'[j]? = some (cs'[j]'(by omega)) := List.getElem?_eq_getElem (by omega)
        have h1 := hfl j f hj
        rw [ho, hk'] at h1
        have hone' : (cs'.drop j).take 1 = [cs'[j]'(by omega)] := by
          rw [List.drop_eq_getElem_cons (by omega)]
          rfl
        rw [hone'] at h1
        have hyl3 : ys.length = 3 := by simpa using hyl
        have hys : ys[j]? = some (ys[j]'(by omega)) := List.getElem?_eq_getElem (by omega)
        exact ⟨_, _, by rw [← Go.Deep.add_add, hcell, hv], h1.trans hys⟩
      obtain ⟨v0, y0, c0, t0⟩ := one 0 f0 rfl
      obtain ⟨v1, y1, c1, t1⟩ := one 1 f1 rfl
      obtain ⟨v2, y2, c2, t2⟩ := one 2 f2 rfl
      obtain ⟨k, hk, _, _⟩ := DataW.trod_int u0 t0
      obtain ⟨nn, hn, _, _⟩ := DataW.trod_int u1 t1
      obtain ⟨s, hs, _, hz⟩ := DataW.trod_string u2 t2
      simp at hk hn hs
      subst hk hn hs
      exact ⟨k, nn, s, c0, c1, c2, hz⟩
    have key' : ∀ i, ∃ (k n : Int) (t : ByteArray), i < len → w.cell? (x.add (i * 3 + 0)) = some (.int .i64 k) ∧ w.cell? (x.add (i * 3 + 1)) = some (.int .i64 n) ∧ w.cell? (x.add (i * 3 + 2)) = some (.string t) ∧ t.size ≤ maxLen := by
      intro i
      by_cases h : i < len
      · obtain ⟨k, n, t, hz⟩ := key i h
        exact ⟨k, n, t, fun _ => hz⟩
      · exact ⟨0, 0, ⟨#[]⟩, fun h1 => absurd h1 h⟩
    obtain ⟨K, N, T, hZ⟩ : ∃ (K N : Nat → Int) (T : Nat → ByteArray), ∀ i, i < len → w.cell? (x.add (i * 3 + 0)) = some (.int .i64 (K i)) ∧ w.cell? (x.add (i * 3 + 1)) = some (.int .i64 (N i)) ∧ w.cell? (x.add (i * 3 + 2)) = some (.string (T i)) ∧ (T i).size ≤ maxLen :=
      ⟨fun i => (key' i).choose, fun i => (key' i).choose_spec.choose, fun i => (key' i).choose_spec.choose_spec.choose, fun i => (key' i).choose_spec.choose_spec.choose_spec⟩
    clear key key'
    refine ⟨K, N, T, fun i hil => ?_⟩
    obtain ⟨b, off, spot⟩ := x
    have hspot : spot = none := by
      obtain ⟨a0, _⟩ := hZ 0 (by omega)
      simp [Addr.add] at a0
      exact World.cell?_spot a0
    subst hspot
    obtain ⟨a0, a1, a2, a3⟩ := hZ i hil
    rw [Go.WideShapes.add_plain] at a0 a1 a2
    exact ⟨b, off, rfl, a0, by rw [Nat.add_assoc]; exact a1, by rw [Nat.add_assoc]; exact a2, a3⟩
end Go.Proofs.YtdgphoemjeakaaaGreatDoor.In
