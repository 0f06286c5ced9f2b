/- TopAlways: are the events few? -/
import Derived.Test.YtdgphoemjeakaaaGreatDoorR17
import Derived.Test.YtdgphoemjeakaaaGreatDoorR18
namespace Go.Proofs.YtdgphoemjeakaaaGreatDoor.Nf
open Go.RowKit K
set_option maxRecDepth 100000
theorem cell_chg {w w' : World} (c : Chg No w w') {x : Addr} {v : Value} (h : w.cell? x = some v) : w'.cell? x = some v :=
  (World.cell?_of_block (c.block x.block (World.block_lt_of_cell? w _ h) fun h => h)).trans h
theorem evs_chg {w w' : World} {a : Option Addr} {len : Nat} {K N : Nat → Int} {T : Nat → ByteArray} (h : In.Evs w a len K N T) (c : Chg No w w') : In.Evs w' a len K N T := fun j hj => by
  obtain ⟨b, off, ha, h0, h1, h2, h3⟩ := h j hj
  exact ⟨b, off, ha, cell_chg c h0, cell_chg c h1, cell_chg c h2, h3⟩
set_option maxHeartbeats 4000000 in
theorem few_any (a : Option Addr) (len cap : Nat) (K N : Nat → Int) (T : Nat → ByteArray) (w : World) (ev : In.Evs w a len K N T) (hl : len ≤ maxLen) : Calls Tryz.prog 9 #[.slice a len cap, .int .i64 60] w fun e w' => ∃ b : Bool, e = .returned (.bool b) ∧ (b = true → len ≤ 60) ∧ Chg No w w' := by
  have EV := Lib.hid ev
  clear ev
  have hl' : (len : Int) ≤ 9223372036854775807 := by unfold maxLen at hl; omega
  go_enter Tryz.func9, Tryz.ntmps9
  go_wp2_with fail
  go_loopw [5] (fun i wr => ∃ j : Nat, j ≤ len ∧ i = .int .i64 j ∧ wr = w) (fun i _ => len - (intOf i).toNat)
  case atStart => exact ⟨0, Nat.zero_le _, rfl, rfl⟩
  case round =>
    obtain ⟨j, hj, rfl, rfl⟩ := hrel
    by_cases hlt : j < len
    · obtain ⟨b, off, rfl, h0, h1, h2, h3⟩ := EV.out j hlt
      generalize T j = t at h2 h3
      go_wp2_with fail
      · go_returns
        exact ⟨false, rfl, (fun h => nomatch h), Chg.refl No _⟩
      · go_roundw
        case rel => exact ⟨j + 1, by omega, by go_num, trivial⟩
        case measure => simp [intOf]; omega
    · go_wp2_with fail
      go_returns
      exact ⟨_, rfl, (fun h => by have := of_decide_eq_true h; omega), Chg.refl No _⟩
end Go.Proofs.YtdgphoemjeakaaaGreatDoor.Nf
