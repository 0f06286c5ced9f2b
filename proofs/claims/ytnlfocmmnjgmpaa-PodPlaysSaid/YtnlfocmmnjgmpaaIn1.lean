/- How slices that came in are opened; small words on rows. -/
import Derived.Test.YtnlfocmmnjgmpaaL
import Derived.ProofKit
import Derived.OpenShut
import Derived.Laws.AppendOwnNone
namespace Go.Proofs.Ytnlfocmmnjgmpaa.In1
open Go.ChangeShapes Go.WideShapes Go.ChangeAt Go.RowKit

/-- A slice of integers that came in: nil, or a row of 'cap' cells, the numbers 'zs', of which the first 'len' are its elements. -/
def IsRow (k : IntKind) (w : World) (a : Option Addr) (len cap : Nat) (zs : List Int) : Prop :=
  (a = none ∧ len = 0 ∧ cap = 0 ∧ zs = []) ∨
  ∃ x, a = some x ∧ len ≤ cap ∧ cap ≤ maxLen ∧ zs.length = cap ∧ (∀ i, i < zs.length → w.cell? (x.add i) = some (.int k (zs.getD i 0))) ∧ ∀ n ∈ zs, (Lit.int k n).wf = true

theorem isRow_of {H : Type} {enc : TypeId × Value → H} {P : Program} {w : World} {base : Nat} {ps : List MemPlace} {t e : TypeId} {k : IntKind} {a : Option Addr} {len cap : Nat} {d : DataW H} (ht : P.underlying t = some (.slice e)) (he : P.underlying e = some (.int k)) (hc : P.cellsOf e = 1) (h : DataW.Trod enc P w base (fun _ => true) true t (.slice a len cap) d ps) : ∃ zs, IsRow k w a len cap zs := by
  obtain ⟨fuel, hf⟩ := h
  rcases open_ints ht he hc hf with ⟨hcs, _⟩ | ⟨x, l, c, zs, hcs, _, hl, hm, hz, _, hcell, hwz⟩
  · simp [Value.cells] at hcs
    obtain ⟨rfl, rfl, rfl⟩ := hcs
    exact ⟨[], .inl ⟨rfl, rfl, rfl, rfl⟩⟩
  · simp [Value.cells] at hcs
    obtain ⟨rfl, rfl, rfl⟩ := hcs
    exact ⟨zs, .inr ⟨_, rfl, hl, hm, by simpa using hz, hcell, hwz⟩⟩

/-- Its elements, one by one, where it is not nil. -/
theorem IsRow.at' {k : IntKind} {w : World} {a : Option Addr} {len cap : Nat} {zs : List Int} (h : IsRow k w a len cap zs) :
    len ≤ maxLen ∧ ((a = none ∧ len = 0) ∨ ∃ b off, (0 < len → a = some ⟨b, off, none⟩) ∧ ∀ j, j < len → w.cell? ⟨b, off + j, none⟩ = some (.int k (zs.getD j 0))) := by
  rcases h with ⟨rfl, rfl, rfl, rfl⟩ | ⟨x, rfl, hl, hm, hz, hc, _⟩
  · exact ⟨by decide, .inl ⟨rfl, rfl⟩⟩
  · refine ⟨by omega, .inr ?_⟩
    by_cases h0 : 0 < zs.length
    · obtain ⟨b, off, rfl, hc'⟩ := ints_at hc h0
      exact ⟨b, off, fun _ => rfl, fun j hj => hc' j (by omega)⟩
    · exact ⟨0, 0, fun h => by omega, fun j hj => by omega⟩

theorem ownsRow_mono {w : World} {base base' : Nat} {e : TypeId} {size : Nat} {v : Value} {n : Nat} {xs : List Value} (h : w.ownsRow base e size v n xs) (hb : base' ≤ base) : w.ownsRow base' e size v n xs := by
  obtain ⟨h1, h2⟩ := h
  refine ⟨h1, ?_⟩
  rcases h2 with h2 | ⟨g, cap, cur, h3, h4, h5⟩
  · exact .inl h2
  · exact .inr ⟨g, cap, cur, h3, by omega, h5⟩

theorem ownsRow_below {w w' : World} {base : Nat} {e : TypeId} {size : Nat} {v : Value} {n : Nat} {xs : List Value} (h : w.ownsRow base e size v n xs) (hb : Below w.heap.size w w') : w'.ownsRow base e size v n xs := by
  have hl := h.lt
  obtain ⟨h1, h2⟩ := h
  refine ⟨h1, ?_⟩
  rcases h2 with h2 | ⟨g, cap, cur, h3, h4, h5, h6⟩
  · exact .inl h2
  · refine .inr ⟨g, cap, cur, h3, h4, ?_, h6⟩
    have := hl g (by rw [h3]; rfl)
    rw [hb.block g this.2]; exact h5

/-- A row of complex numbers of the call's own. -/
def cv (p : Int × Int) : Value := .complex .f64 (Fl.fl p.1) (Fl.fl p.2)
def zb (p : Int × Int) : Nat × Nat := (Fl.fl p.1, Fl.fl p.2)

theorem cx_of_own {w : World} {B : Nat} {v : Value} {l : List (Int × Int)} (h : w.ownsRow B 23 1 v l.length (l.map cv)) : L.Cx w v (l.map zb) := by
  have hh := h
  obtain ⟨_, h2⟩ := h
  rcases h2 with ⟨rfl, h3⟩ | ⟨g, cap, cur, rfl, _⟩
  · exact .inl ⟨0, rfl, by simp [List.length_eq_zero_iff.1 h3]⟩
  · refine .inr ⟨g, 0, cap, by simp, fun k hk => ?_⟩
    have hk' : k < l.length := by simpa using hk
    have := hh.cellAt k (by omega)
    rw [Nat.zero_add, this]
    simp [List.getD, hk', cv, zb]

theorem sumOf_map (g : Nat × Nat → Nat) (f : Int × Int → Int) (l : List (Int × Int)) (hg : ∀ p, g (zb p) = Fl.fl (f p)) (h : ∀ p ∈ l, 0 ≤ f p ∧ f p < 1000000) (hl : l.length ≤ 1000) :
    L.sumOf g (l.map zb) = (l.map f).sum ∧ 0 ≤ (l.map f).sum ∧ (l.map f).sum ≤ 1000000 * l.length := by
  have key : ∀ (l : List (Int × Int)) (s : Int), (∀ p ∈ l, 0 ≤ f p ∧ f p < 1000000) → 0 ≤ s → s + 1000000 * l.length ≤ 1099511627776 →
      (l.map zb).foldl (fun s z => Fl.cut (s + Fl.whole (g z))) s = s + (l.map f).sum ∧ 0 ≤ (l.map f).sum ∧ (l.map f).sum ≤ 1000000 * l.length := by
    intro l
    induction l with
    | nil => intro s _ _ _; simp
    | cons p l ih =>
      intro s hp h0 hs
      have h1 := hp p (by simp)
      simp only [List.map_cons, List.foldl_cons, List.sum_cons, List.length_cons] at hs ⊢
      rw [hg, Fl.whole_fl h1.1 (by omega), Fl.cut_in (by omega) (by omega)]
      obtain ⟨a, b, c⟩ := ih (s + f p) (fun q hq => hp q (by simp [hq])) (by omega) (by omega)
      exact ⟨by rw [a]; omega, by omega, by omega⟩
  obtain ⟨a, b, c⟩ := key l 0 h (by omega) (by omega)
  exact ⟨by unfold L.sumOf; rw [a]; omega, b, c⟩

theorem info23 : (Try.prog.info? 23).map (fun i => (i.zero, i.size, i.bytes)) = some (some (.complex .f64 0 0), 1, 16) := by kernel_rfl
end Go.Proofs.Ytnlfocmmnjgmpaa.In1
