/- text.parts: where the settings lie. A map from strings to truths that a call makes; settings that are stored whole. text.Parse: no text stops it; what it hands back with the code nought may be. -/
import Derived.Test.YtdgphoemjeakaaaGreatDoorR33
import Derived.Maps.OwnOps
import Derived.Deep.MidRow
import Derived.Lib.SplitLaws
import Derived.StringKeys
namespace Go.Proofs.YtdgphoemjeakaaaGreatDoor.Tx
open Go.RowKit K W Rg Mg
noncomputable def opsP : Array Oper := reg Tryz.f85 1
noncomputable def nmP (i : Nat) : Value := match (opsP[i]?).map Oper.op with
  | some (Op.build _ fs) => match fs[0]?.map Prod.snd with
    | some (Operand.const v) => v
    | _ => undef
  | _ => undef
noncomputable def layP (B N : Nat) : Lay := [(some 3, .pointer (some ⟨B, 0, none⟩)),
  (some 4, .pointer (some ⟨B, 0, none⟩)),
  (some 5, .pointer (some ⟨B, 0, none⟩)),
  (some 6, .iface 202 (.pointer (some ⟨B, 0, none⟩))),
  (some 7, .agg #[nmP 4, .iface 202 (.pointer (some ⟨B, 0, none⟩))]),
  (some 8, .pointer (some ⟨B, 0, none⟩)),
  (some 9, .pointer (some ⟨B, 0, none⟩)),
  (some 10, .pointer (some ⟨B, 1, none⟩)),
  (some 11, .iface 202 (.pointer (some ⟨B, 1, none⟩))),
  (some 12, .agg #[nmP 9, .iface 202 (.pointer (some ⟨B, 1, none⟩))]),
  (some 13, .pointer (some ⟨B, 0, none⟩)),
  (some 14, .pointer (some ⟨B, 0, none⟩)),
  (some 15, .pointer (some ⟨B, 2, none⟩)),
  (some 16, .iface 203 (.pointer (some ⟨B, 2, none⟩))),
  (some 17, .agg #[nmP 14, .iface 203 (.pointer (some ⟨B, 2, none⟩))]),
  (some 18, .pointer (some ⟨B, 0, none⟩)),
  (some 19, .pointer (some ⟨B, 0, none⟩)),
  (some 20, .pointer (some ⟨B, 3, none⟩)),
  (some 21, .iface 203 (.pointer (some ⟨B, 3, none⟩))),
  (some 22, .agg #[nmP 19, .iface 203 (.pointer (some ⟨B, 3, none⟩))]),
  (some 23, .pointer (some ⟨B, 0, none⟩)),
  (some 24, .pointer (some ⟨B, 0, none⟩)),
  (some 25, .pointer (some ⟨B, 4, none⟩)),
  (some 26, .iface 203 (.pointer (some ⟨B, 4, none⟩))),
  (some 27, .agg #[nmP 24, .iface 203 (.pointer (some ⟨B, 4, none⟩))]),
  (some 28, .pointer (some ⟨B, 0, none⟩)),
  (some 29, .pointer (some ⟨B, 0, none⟩)),
  (some 30, .pointer (some ⟨B, 5, none⟩)),
  (some 31, .iface 202 (.pointer (some ⟨B, 5, none⟩))),
  (some 32, .agg #[nmP 29, .iface 202 (.pointer (some ⟨B, 5, none⟩))]),
  (some 33, .pointer (some ⟨B, 0, none⟩)),
  (some 34, .pointer (some ⟨B, 0, none⟩)),
  (some 35, .pointer (some ⟨B, 6, none⟩)),
  (some 36, .iface 202 (.pointer (some ⟨B, 6, none⟩))),
  (some 37, .agg #[nmP 34, .iface 202 (.pointer (some ⟨B, 6, none⟩))]),
  (some 38, .pointer (some ⟨B, 0, none⟩)),
  (some 39, .pointer (some ⟨B, 0, none⟩)),
  (some 40, .pointer (some ⟨B, 7, none⟩)),
  (some 41, .iface 202 (.pointer (some ⟨B, 7, none⟩))),
  (some 42, .agg #[nmP 39, .iface 202 (.pointer (some ⟨B, 7, none⟩))]),
  (some 43, .pointer (some ⟨B, 0, none⟩)),
  (some 44, .pointer (some ⟨B, 0, none⟩)),
  (some 45, .pointer (some ⟨B, 8, none⟩)),
  (some 46, .iface 203 (.pointer (some ⟨B, 8, none⟩))),
  (some 47, .agg #[nmP 44, .iface 203 (.pointer (some ⟨B, 8, none⟩))]),
  (some 48, .pointer (some ⟨B, 0, none⟩)),
  (some 49, .pointer (some ⟨B, 0, none⟩)),
  (some 50, .pointer (some ⟨B, 9, none⟩)),
  (some 51, .iface 203 (.pointer (some ⟨B, 9, none⟩))),
  (some 52, .agg #[nmP 49, .iface 203 (.pointer (some ⟨B, 9, none⟩))]),
  (some 53, .pointer (some ⟨B, 0, none⟩)),
  (some 54, .pointer (some ⟨B, 0, none⟩)),
  (some 55, .pointer (some ⟨B, 10, none⟩)),
  (some 56, .iface 203 (.pointer (some ⟨B, 10, none⟩))),
  (some 57, .agg #[nmP 54, .iface 203 (.pointer (some ⟨B, 10, none⟩))]),
  (some 58, .pointer (some ⟨B, 0, none⟩)),
  (some 59, .pointer (some ⟨B, 0, none⟩)),
  (some 60, .pointer (some ⟨B, 11, none⟩)),
  (some 61, .iface 203 (.pointer (some ⟨B, 11, none⟩))),
  (some 62, .agg #[nmP 59, .iface 203 (.pointer (some ⟨B, 11, none⟩))]),
  (some 63, .pointer (some ⟨B, 0, none⟩)),
  (some 64, .pointer (some ⟨B, 0, none⟩)),
  (some 65, .pointer (some ⟨B, 12, none⟩)),
  (some 66, .iface 203 (.pointer (some ⟨B, 12, none⟩))),
  (some 67, .agg #[nmP 64, .iface 203 (.pointer (some ⟨B, 12, none⟩))]),
  (some 68, .pointer (some ⟨B, 0, none⟩)),
  (some 69, .pointer (some ⟨B, 0, none⟩)),
  (some 70, .pointer (some ⟨B, 13, none⟩)),
  (some 71, .iface 202 (.pointer (some ⟨B, 13, none⟩))),
  (some 72, .agg #[nmP 69, .iface 202 (.pointer (some ⟨B, 13, none⟩))]),
  (some 73, .pointer (some ⟨B, 0, none⟩)),
  (some 74, .pointer (some ⟨B, 0, none⟩)),
  (some 75, .pointer (some ⟨B, 14, none⟩)),
  (some 76, .iface 203 (.pointer (some ⟨B, 14, none⟩))),
  (some 77, .agg #[nmP 74, .iface 203 (.pointer (some ⟨B, 14, none⟩))]),
  (some 78, .pointer (some ⟨B, 0, none⟩)),
  (some 79, .pointer (some ⟨B, 0, none⟩)),
  (some 80, .pointer (some ⟨B, 15, none⟩)),
  (some 81, .iface 203 (.pointer (some ⟨B, 15, none⟩))),
  (some 82, .agg #[nmP 79, .iface 203 (.pointer (some ⟨B, 15, none⟩))]),
  (some 83, .pointer (some ⟨B, 0, none⟩)),
  (some 84, .pointer (some ⟨B, 0, none⟩)),
  (some 85, .pointer (some ⟨B, 16, none⟩)),
  (some 86, .iface 203 (.pointer (some ⟨B, 16, none⟩))),
  (some 87, .agg #[nmP 84, .iface 203 (.pointer (some ⟨B, 16, none⟩))]),
  (some 88, .pointer (some ⟨B, 0, none⟩)),
  (some 89, .pointer (some ⟨B, 0, none⟩)),
  (some 90, .pointer (some ⟨B, 17, none⟩)),
  (some 91, .iface 203 (.pointer (some ⟨B, 17, none⟩))),
  (some 92, .agg #[nmP 89, .iface 203 (.pointer (some ⟨B, 17, none⟩))]),
  (some 93, .pointer (some ⟨B, 0, none⟩)),
  (some 94, .pointer (some ⟨B, 0, none⟩)),
  (some 95, .pointer (some ⟨B, 18, none⟩)),
  (some 96, .iface 203 (.pointer (some ⟨B, 18, none⟩))),
  (some 97, .agg #[nmP 94, .iface 203 (.pointer (some ⟨B, 18, none⟩))]),
  (some 98, .pointer (some ⟨B, 0, none⟩)),
  (some 99, .pointer (some ⟨B, 0, none⟩)),
  (some 100, .pointer (some ⟨B, 19, none⟩)),
  (some 101, .iface 203 (.pointer (some ⟨B, 19, none⟩))),
  (some 102, .agg #[nmP 99, .iface 203 (.pointer (some ⟨B, 19, none⟩))]),
  (some 103, .slice (some ⟨N, 0, none⟩) 20 20),
  (some 2, .slice (some ⟨N, 0, none⟩) 20 20)]
noncomputable def partsP (B : Nat) : Array Value := #[nmP 4, .iface 202 (.pointer (some ⟨B, 0, none⟩)), nmP 9, .iface 202 (.pointer (some ⟨B, 1, none⟩)), nmP 14, .iface 203 (.pointer (some ⟨B, 2, none⟩)), nmP 19, .iface 203 (.pointer (some ⟨B, 3, none⟩)), nmP 24, .iface 203 (.pointer (some ⟨B, 4, none⟩)), nmP 29, .iface 202 (.pointer (some ⟨B, 5, none⟩)), nmP 34, .iface 202 (.pointer (some ⟨B, 6, none⟩)), nmP 39, .iface 202 (.pointer (some ⟨B, 7, none⟩)), nmP 44, .iface 203 (.pointer (some ⟨B, 8, none⟩)), nmP 49, .iface 203 (.pointer (some ⟨B, 9, none⟩)), nmP 54, .iface 203 (.pointer (some ⟨B, 10, none⟩)), nmP 59, .iface 203 (.pointer (some ⟨B, 11, none⟩)), nmP 64, .iface 203 (.pointer (some ⟨B, 12, none⟩)), nmP 69, .iface 202 (.pointer (some ⟨B, 13, none⟩)), nmP 74, .iface 203 (.pointer (some ⟨B, 14, none⟩)), nmP 79, .iface 203 (.pointer (some ⟨B, 15, none⟩)), nmP 84, .iface 203 (.pointer (some ⟨B, 16, none⟩)), nmP 89, .iface 203 (.pointer (some ⟨B, 17, none⟩)), nmP 94, .iface 203 (.pointer (some ⟨B, 18, none⟩)), nmP 99, .iface 203 (.pointer (some ⟨B, 19, none⟩))]
set_option maxRecDepth 1000000 in
theorem partsP_at (B : Nat) : ∀ k, k < 20 → (∃ x : ByteArray, (partsP B)[k * 2]? = some (.string x)) ∧ (partsP B)[k * 2 + 1]? = some (.iface (pty k) (.pointer (some ⟨B, k, none⟩)))
  | 0, _ => ⟨⟨_, rfl⟩, rfl⟩
  | 1, _ => ⟨⟨_, rfl⟩, rfl⟩
  | 2, _ => ⟨⟨_, rfl⟩, rfl⟩
  | 3, _ => ⟨⟨_, rfl⟩, rfl⟩
  | 4, _ => ⟨⟨_, rfl⟩, rfl⟩
  | 5, _ => ⟨⟨_, rfl⟩, rfl⟩
  | 6, _ => ⟨⟨_, rfl⟩, rfl⟩
  | 7, _ => ⟨⟨_, rfl⟩, rfl⟩
  | 8, _ => ⟨⟨_, rfl⟩, rfl⟩
  | 9, _ => ⟨⟨_, rfl⟩, rfl⟩
  | 10, _ => ⟨⟨_, rfl⟩, rfl⟩
  | 11, _ => ⟨⟨_, rfl⟩, rfl⟩
  | 12, _ => ⟨⟨_, rfl⟩, rfl⟩
  | 13, _ => ⟨⟨_, rfl⟩, rfl⟩
  | 14, _ => ⟨⟨_, rfl⟩, rfl⟩
  | 15, _ => ⟨⟨_, rfl⟩, rfl⟩
  | 16, _ => ⟨⟨_, rfl⟩, rfl⟩
  | 17, _ => ⟨⟨_, rfl⟩, rfl⟩
  | 18, _ => ⟨⟨_, rfl⟩, rfl⟩
  | 19, _ => ⟨⟨_, rfl⟩, rfl⟩
  | n + 20, h => absurd h (by omega)
set_option maxHeartbeats 8000000 in
set_option maxRecDepth 1000000 in
theorem wp_parts {id : Nat} {Q : Exit → Act → World → Prop} {B : Nat} {t0 : Array Value} {w1 : World} (hs : t0.size = 104) (h0 : t0[0]? = some (.pointer (some ⟨B, 0, none⟩)))
    (hend : ∀ w', Chg No w1 w' → Blk w' w1.heap.size (partsP B) 154 → Q .normal ⟨puts (layP B w1.heap.size) t0, []⟩ w') : (Code.region id opsP true).wp Tryz.prog Q ⟨t0, []⟩ w1 := by
  have sz : opsP.size = 102 := by kernel_rfl
  have F : Flows (X := Unit) opsP (fun _ => layP B w1.heap.size) [(0, .pointer (some ⟨B, 0, none⟩))] t0 3 := Flows.of (by kernel_rfl) hs (fun _ => by kernel_rfl) (.cons h0 .nil)
  refine wp_flow (Wd := fun _ L w => Chg No w1 w ∧ (L 100 = false → w.heap.size = w1.heap.size) ∧ (L 100 = true → Blk w w1.heap.size (partsP B) 154)) F rfl () ⟨(Chg.refl No w1).drew, fun _ => rfl, fun h => nomatch h⟩ (fun i hi => ?_) (fun x L w' hl hw => hend w' hw.1 (hw.2.2 (hl 100 (by rw [sz]; decide))))
  rw [sz] at hi
  generalize w1.heap.size = N at *
  have nx : ∀ (i : Nat) (L : Nat → Bool) (w : World), ((100 : Nat) == i) = false → (Chg No w1 w ∧ (L 100 = false → w.heap.size = N) ∧ (L 100 = true → Blk w N (partsP B) 154)) → Chg No w1 w ∧ ((100 == i || L 100) = false → w.heap.size = N) ∧ ((100 == i || L 100) = true → Blk w N (partsP B) 154) := fun i L w he h => by
    rw [he, Bool.false_or]
    exact h
  match i, hi with
  | 0, _ => exact stepP F rfl (fun _ => rfl) (fun _ _ => by kernel_rfl) (fun _ => rfl) (fun _ L w h => nx _ L w rfl h)
  | 1, _ => exact stepP F rfl (fun _ => rfl) (fun _ _ => by kernel_rfl) (fun _ => rfl) (fun _ L w h => nx _ L w rfl h)
  | 2, _ => exact stepP F rfl (fun _ => rfl) (fun _ _ => by kernel_rfl) (fun _ => rfl) (fun _ L w h => nx _ L w rfl h)
  | 3, _ => exact stepP F rfl (fun _ => rfl) (fun _ _ => by kernel_rfl) (fun _ => rfl) (fun _ L w h => nx _ L w rfl h)
  | 4, _ => exact stepP F rfl (fun _ => rfl) (fun _ _ => by kernel_rfl) (fun _ => rfl) (fun _ L w h => nx _ L w rfl h)
  | 5, _ => exact stepP F rfl (fun _ => rfl) (fun _ _ => by kernel_rfl) (fun _ => rfl) (fun _ L w h => nx _ L w rfl h)
  | 6, _ => exact stepP F rfl (fun _ => rfl) (fun _ _ => by kernel_rfl) (fun _ => rfl) (fun _ L w h => nx _ L w rfl h)
  | 7, _ => exact stepP F rfl (fun _ => rfl) (fun _ _ => by kernel_rfl) (fun _ => rfl) (fun _ L w h => nx _ L w rfl h)
  | 8, _ => exact stepP F rfl (fun _ => rfl) (fun _ _ => by kernel_rfl) (fun _ => rfl) (fun _ L w h => nx _ L w rfl h)
  | 9, _ => exact stepP F rfl (fun _ => rfl) (fun _ _ => by kernel_rfl) (fun _ => rfl) (fun _ L w h => nx _ L w rfl h)
  | 10, _ => exact stepP F rfl (fun _ => rfl) (fun _ _ => by kernel_rfl) (fun _ => rfl) (fun _ L w h => nx _ L w rfl h)
  | 11, _ => exact stepP F rfl (fun _ => rfl) (fun _ _ => by kernel_rfl) (fun _ => rfl) (fun _ L w h => nx _ L w rfl h)
  | 12, _ => exact stepP F rfl (fun _ => rfl) (fun _ _ => by kernel_rfl) (fun _ => rfl) (fun _ L w h => nx _ L w rfl h)
  | 13, _ => exact stepP F rfl (fun _ => rfl) (fun _ _ => by kernel_rfl) (fun _ => rfl) (fun _ L w h => nx _ L w rfl h)
  | 14, _ => exact stepP F rfl (fun _ => rfl) (fun _ _ => by kernel_rfl) (fun _ => rfl) (fun _ L w h => nx _ L w rfl h)
  | 15, _ => exact stepP F rfl (fun _ => rfl) (fun _ _ => by kernel_rfl) (fun _ => rfl) (fun _ L w h => nx _ L w rfl h)
  | 16, _ => exact stepP F rfl (fun _ => rfl) (fun _ _ => by kernel_rfl) (fun _ => rfl) (fun _ L w h => nx _ L w rfl h)
  | 17, _ => exact stepP F rfl (fun _ => rfl) (fun _ _ => by kernel_rfl) (fun _ => rfl) (fun _ L w h => nx _ L w rfl h)
  | 18, _ => exact stepP F rfl (fun _ => rfl) (fun _ _ => by kernel_rfl) (fun _ => rfl) (fun _ L w h => nx _ L w rfl h)
  | 19, _ => exact stepP F rfl (fun _ => rfl) (fun _ _ => by kernel_rfl) (fun _ => rfl) (fun _ L w h => nx _ L w rfl h)
  | 20, _ => exact stepP F rfl (fun _ => rfl) (fun _ _ => by kernel_rfl) (fun _ => rfl) (fun _ L w h => nx _ L w rfl h)
  | 21, _ => exact stepP F rfl (fun _ => rfl) (fun _ _ => by kernel_rfl) (fun _ => rfl) (fun _ L w h => nx _ L w rfl h)
  | 22, _ => exact stepP F rfl (fun _ => rfl) (fun _ _ => by kernel_rfl) (fun _ => rfl) (fun _ L w h => nx _ L w rfl h)
  | 23, _ => exact stepP F rfl (fun _ => rfl) (fun _ _ => by kernel_rfl) (fun _ => rfl) (fun _ L w h => nx _ L w rfl h)
  | 24, _ => exact stepP F rfl (fun _ => rfl) (fun _ _ => by kernel_rfl) (fun _ => rfl) (fun _ L w h => nx _ L w rfl h)
  | 25, _ => exact stepP F rfl (fun _ => rfl) (fun _ _ => by kernel_rfl) (fun _ => rfl) (fun _ L w h => nx _ L w rfl h)
  | 26, _ => exact stepP F rfl (fun _ => rfl) (fun _ _ => by kernel_rfl) (fun _ => rfl) (fun _ L w h => nx _ L w rfl h)
  | 27, _ => exact stepP F rfl (fun _ => rfl) (fun _ _ => by kernel_rfl) (fun _ => rfl) (fun _ L w h => nx _ L w rfl h)
  | 28, _ => exact stepP F rfl (fun _ => rfl) (fun _ _ => by kernel_rfl) (fun _ => rfl) (fun _ L w h => nx _ L w rfl h)
  | 29, _ => exact stepP F rfl (fun _ => rfl) (fun _ _ => by kernel_rfl) (fun _ => rfl) (fun _ L w h => nx _ L w rfl h)
  | 30, _ => exact stepP F rfl (fun _ => rfl) (fun _ _ => by kernel_rfl) (fun _ => rfl) (fun _ L w h => nx _ L w rfl h)
  | 31, _ => exact stepP F rfl (fun _ => rfl) (fun _ _ => by kernel_rfl) (fun _ => rfl) (fun _ L w h => nx _ L w rfl h)
  | 32, _ => exact stepP F rfl (fun _ => rfl) (fun _ _ => by kernel_rfl) (fun _ => rfl) (fun _ L w h => nx _ L w rfl h)
  | 33, _ => exact stepP F rfl (fun _ => rfl) (fun _ _ => by kernel_rfl) (fun _ => rfl) (fun _ L w h => nx _ L w rfl h)
  | 34, _ => exact stepP F rfl (fun _ => rfl) (fun _ _ => by kernel_rfl) (fun _ => rfl) (fun _ L w h => nx _ L w rfl h)
  | 35, _ => exact stepP F rfl (fun _ => rfl) (fun _ _ => by kernel_rfl) (fun _ => rfl) (fun _ L w h => nx _ L w rfl h)
  | 36, _ => exact stepP F rfl (fun _ => rfl) (fun _ _ => by kernel_rfl) (fun _ => rfl) (fun _ L w h => nx _ L w rfl h)
  | 37, _ => exact stepP F rfl (fun _ => rfl) (fun _ _ => by kernel_rfl) (fun _ => rfl) (fun _ L w h => nx _ L w rfl h)
  | 38, _ => exact stepP F rfl (fun _ => rfl) (fun _ _ => by kernel_rfl) (fun _ => rfl) (fun _ L w h => nx _ L w rfl h)
  | 39, _ => exact stepP F rfl (fun _ => rfl) (fun _ _ => by kernel_rfl) (fun _ => rfl) (fun _ L w h => nx _ L w rfl h)
  | 40, _ => exact stepP F rfl (fun _ => rfl) (fun _ _ => by kernel_rfl) (fun _ => rfl) (fun _ L w h => nx _ L w rfl h)
  | 41, _ => exact stepP F rfl (fun _ => rfl) (fun _ _ => by kernel_rfl) (fun _ => rfl) (fun _ L w h => nx _ L w rfl h)
  | 42, _ => exact stepP F rfl (fun _ => rfl) (fun _ _ => by kernel_rfl) (fun _ => rfl) (fun _ L w h => nx _ L w rfl h)
  | 43, _ => exact stepP F rfl (fun _ => rfl) (fun _ _ => by kernel_rfl) (fun _ => rfl) (fun _ L w h => nx _ L w rfl h)
  | 44, _ => exact stepP F rfl (fun _ => rfl) (fun _ _ => by kernel_rfl) (fun _ => rfl) (fun _ L w h => nx _ L w rfl h)
  | 45, _ => exact stepP F rfl (fun _ => rfl) (fun _ _ => by kernel_rfl) (fun _ => rfl) (fun _ L w h => nx _ L w rfl h)
  | 46, _ => exact stepP F rfl (fun _ => rfl) (fun _ _ => by kernel_rfl) (fun _ => rfl) (fun _ L w h => nx _ L w rfl h)
  | 47, _ => exact stepP F rfl (fun _ => rfl) (fun _ _ => by kernel_rfl) (fun _ => rfl) (fun _ L w h => nx _ L w rfl h)
  | 48, _ => exact stepP F rfl (fun _ => rfl) (fun _ _ => by kernel_rfl) (fun _ => rfl) (fun _ L w h => nx _ L w rfl h)
  | 49, _ => exact stepP F rfl (fun _ => rfl) (fun _ _ => by kernel_rfl) (fun _ => rfl) (fun _ L w h => nx _ L w rfl h)
  | 50, _ => exact stepP F rfl (fun _ => rfl) (fun _ _ => by kernel_rfl) (fun _ => rfl) (fun _ L w h => nx _ L w rfl h)
  | 51, _ => exact stepP F rfl (fun _ => rfl) (fun _ _ => by kernel_rfl) (fun _ => rfl) (fun _ L w h => nx _ L w rfl h)
  | 52, _ => exact stepP F rfl (fun _ => rfl) (fun _ _ => by kernel_rfl) (fun _ => rfl) (fun _ L w h => nx _ L w rfl h)
  | 53, _ => exact stepP F rfl (fun _ => rfl) (fun _ _ => by kernel_rfl) (fun _ => rfl) (fun _ L w h => nx _ L w rfl h)
  | 54, _ => exact stepP F rfl (fun _ => rfl) (fun _ _ => by kernel_rfl) (fun _ => rfl) (fun _ L w h => nx _ L w rfl h)
  | 55, _ => exact stepP F rfl (fun _ => rfl) (fun _ _ => by kernel_rfl) (fun _ => rfl) (fun _ L w h => nx _ L w rfl h)
  | 56, _ => exact stepP F rfl (fun _ => rfl) (fun _ _ => by kernel_rfl) (fun _ => rfl) (fun _ L w h => nx _ L w rfl h)
  | 57, _ => exact stepP F rfl (fun _ => rfl) (fun _ _ => by kernel_rfl) (fun _ => rfl) (fun _ L w h => nx _ L w rfl h)
  | 58, _ => exact stepP F rfl (fun _ => rfl) (fun _ _ => by kernel_rfl) (fun _ => rfl) (fun _ L w h => nx _ L w rfl h)
  | 59, _ => exact stepP F rfl (fun _ => rfl) (fun _ _ => by kernel_rfl) (fun _ => rfl) (fun _ L w h => nx _ L w rfl h)
  | 60, _ => exact stepP F rfl (fun _ => rfl) (fun _ _ => by kernel_rfl) (fun _ => rfl) (fun _ L w h => nx _ L w rfl h)
  | 61, _ => exact stepP F rfl (fun _ => rfl) (fun _ _ => by kernel_rfl) (fun _ => rfl) (fun _ L w h => nx _ L w rfl h)
  | 62, _ => exact stepP F rfl (fun _ => rfl) (fun _ _ => by kernel_rfl) (fun _ => rfl) (fun _ L w h => nx _ L w rfl h)
  | 63, _ => exact stepP F rfl (fun _ => rfl) (fun _ _ => by kernel_rfl) (fun _ => rfl) (fun _ L w h => nx _ L w rfl h)
  | 64, _ => exact stepP F rfl (fun _ => rfl) (fun _ _ => by kernel_rfl) (fun _ => rfl) (fun _ L w h => nx _ L w rfl h)
  | 65, _ => exact stepP F rfl (fun _ => rfl) (fun _ _ => by kernel_rfl) (fun _ => rfl) (fun _ L w h => nx _ L w rfl h)
  | 66, _ => exact stepP F rfl (fun _ => rfl) (fun _ _ => by kernel_rfl) (fun _ => rfl) (fun _ L w h => nx _ L w rfl h)
  | 67, _ => exact stepP F rfl (fun _ => rfl) (fun _ _ => by kernel_rfl) (fun _ => rfl) (fun _ L w h => nx _ L w rfl h)
  | 68, _ => exact stepP F rfl (fun _ => rfl) (fun _ _ => by kernel_rfl) (fun _ => rfl) (fun _ L w h => nx _ L w rfl h)
  | 69, _ => exact stepP F rfl (fun _ => rfl) (fun _ _ => by kernel_rfl) (fun _ => rfl) (fun _ L w h => nx _ L w rfl h)
  | 70, _ => exact stepP F rfl (fun _ => rfl) (fun _ _ => by kernel_rfl) (fun _ => rfl) (fun _ L w h => nx _ L w rfl h)
  | 71, _ => exact stepP F rfl (fun _ => rfl) (fun _ _ => by kernel_rfl) (fun _ => rfl) (fun _ L w h => nx _ L w rfl h)
  | 72, _ => exact stepP F rfl (fun _ => rfl) (fun _ _ => by kernel_rfl) (fun _ => rfl) (fun _ L w h => nx _ L w rfl h)
  | 73, _ => exact stepP F rfl (fun _ => rfl) (fun _ _ => by kernel_rfl) (fun _ => rfl) (fun _ L w h => nx _ L w rfl h)
  | 74, _ => exact stepP F rfl (fun _ => rfl) (fun _ _ => by kernel_rfl) (fun _ => rfl) (fun _ L w h => nx _ L w rfl h)
  | 75, _ => exact stepP F rfl (fun _ => rfl) (fun _ _ => by kernel_rfl) (fun _ => rfl) (fun _ L w h => nx _ L w rfl h)
  | 76, _ => exact stepP F rfl (fun _ => rfl) (fun _ _ => by kernel_rfl) (fun _ => rfl) (fun _ L w h => nx _ L w rfl h)
  | 77, _ => exact stepP F rfl (fun _ => rfl) (fun _ _ => by kernel_rfl) (fun _ => rfl) (fun _ L w h => nx _ L w rfl h)
  | 78, _ => exact stepP F rfl (fun _ => rfl) (fun _ _ => by kernel_rfl) (fun _ => rfl) (fun _ L w h => nx _ L w rfl h)
  | 79, _ => exact stepP F rfl (fun _ => rfl) (fun _ _ => by kernel_rfl) (fun _ => rfl) (fun _ L w h => nx _ L w rfl h)
  | 80, _ => exact stepP F rfl (fun _ => rfl) (fun _ _ => by kernel_rfl) (fun _ => rfl) (fun _ L w h => nx _ L w rfl h)
  | 81, _ => exact stepP F rfl (fun _ => rfl) (fun _ _ => by kernel_rfl) (fun _ => rfl) (fun _ L w h => nx _ L w rfl h)
  | 82, _ => exact stepP F rfl (fun _ => rfl) (fun _ _ => by kernel_rfl) (fun _ => rfl) (fun _ L w h => nx _ L w rfl h)
  | 83, _ => exact stepP F rfl (fun _ => rfl) (fun _ _ => by kernel_rfl) (fun _ => rfl) (fun _ L w h => nx _ L w rfl h)
  | 84, _ => exact stepP F rfl (fun _ => rfl) (fun _ _ => by kernel_rfl) (fun _ => rfl) (fun _ L w h => nx _ L w rfl h)
  | 85, _ => exact stepP F rfl (fun _ => rfl) (fun _ _ => by kernel_rfl) (fun _ => rfl) (fun _ L w h => nx _ L w rfl h)
  | 86, _ => exact stepP F rfl (fun _ => rfl) (fun _ _ => by kernel_rfl) (fun _ => rfl) (fun _ L w h => nx _ L w rfl h)
  | 87, _ => exact stepP F rfl (fun _ => rfl) (fun _ _ => by kernel_rfl) (fun _ => rfl) (fun _ L w h => nx _ L w rfl h)
  | 88, _ => exact stepP F rfl (fun _ => rfl) (fun _ _ => by kernel_rfl) (fun _ => rfl) (fun _ L w h => nx _ L w rfl h)
  | 89, _ => exact stepP F rfl (fun _ => rfl) (fun _ _ => by kernel_rfl) (fun _ => rfl) (fun _ L w h => nx _ L w rfl h)
  | 90, _ => exact stepP F rfl (fun _ => rfl) (fun _ _ => by kernel_rfl) (fun _ => rfl) (fun _ L w h => nx _ L w rfl h)
  | 91, _ => exact stepP F rfl (fun _ => rfl) (fun _ _ => by kernel_rfl) (fun _ => rfl) (fun _ L w h => nx _ L w rfl h)
  | 92, _ => exact stepP F rfl (fun _ => rfl) (fun _ _ => by kernel_rfl) (fun _ => rfl) (fun _ L w h => nx _ L w rfl h)
  | 93, _ => exact stepP F rfl (fun _ => rfl) (fun _ _ => by kernel_rfl) (fun _ => rfl) (fun _ L w h => nx _ L w rfl h)
  | 94, _ => exact stepP F rfl (fun _ => rfl) (fun _ _ => by kernel_rfl) (fun _ => rfl) (fun _ L w h => nx _ L w rfl h)
  | 95, _ => exact stepP F rfl (fun _ => rfl) (fun _ _ => by kernel_rfl) (fun _ => rfl) (fun _ L w h => nx _ L w rfl h)
  | 96, _ => exact stepP F rfl (fun _ => rfl) (fun _ _ => by kernel_rfl) (fun _ => rfl) (fun _ L w h => nx _ L w rfl h)
  | 97, _ => exact stepP F rfl (fun _ => rfl) (fun _ _ => by kernel_rfl) (fun _ => rfl) (fun _ L w h => nx _ L w rfl h)
  | 98, _ => exact stepP F rfl (fun _ => rfl) (fun _ _ => by kernel_rfl) (fun _ => rfl) (fun _ L w h => nx _ L w rfl h)
  | 99, _ => exact stepP F rfl (fun _ => rfl) (fun _ _ => by kernel_rfl) (fun _ => rfl) (fun _ L w h => nx _ L w rfl h)
  | 100, _ => exact stepR F rfl (fun _ => rfl) (fun _ => rfl) (fun _ L w h1 _ _ h => by rw [show (execOp _ _).run Tryz.prog w = .ok (.value (.slice (some ⟨w.heap.size, 0, none⟩) 20 20)) (w.alloc (.cells (partsP B) 154)) by kernel_rfl]; exact ⟨.inr (by rw [h.2.1 h1]), h.1.alloc _, (fun h => nomatch h), fun _ => h.2.1 h1 ▸ Blk.new w _ 154⟩)
  | 101, _ => exact stepP F rfl (fun _ => rfl) (fun _ _ => by kernel_rfl) (fun _ => rfl) (fun _ L w h => nx _ L w rfl h)
  | n + 102, h => exact absurd h (by omega)
set_option maxHeartbeats 2000000 in
set_option maxRecDepth 1000000 in
theorem parts_any (B : Nat) (w : World) : Calls Tryz.prog 85 #[.pointer (some ⟨B, 0, none⟩)] w fun e w' => ∃ N, e = .returned (.slice (some ⟨N, 0, none⟩) 20 20) ∧ Blk w' N (partsP B) 154 ∧ w.heap.size ≤ N ∧ Chg No w w' := by
  go_enter Tryz.func85, Tryz.ntmps85
  go_wp2_with fail
  simp only [List.append_eq, List.cons_append, List.nil_append]
  refine wp_parts rfl rfl (fun w2 hc hp => ?_)
  generalize hN : w.heap.size = N at *
  simp only [layP, puts, List.setIfInBounds_toArray, List.set_cons_succ, List.set_cons_zero]
  have HC := Lib.hid hc
  have HP := Lib.hid hp
  clear hc hp
  go_wp2_with fail
  go_ret
  exact ⟨_, rfl, HP.out, Nat.le_of_eq hN, HC.out⟩
end Go.Proofs.YtdgphoemjeakaaaGreatDoor.Tx
namespace Go.Proofs.YtdgphoemjeakaaaGreatDoor.Tx
open Go.RowKit K Mg
open Go.Maps
def Mp (w : World) (M k : Nat) : Prop := ∃ D : DataW Unit, w.ownsMap Tryz.prog 9 (plainElem Tryz.prog 4) M k D
theorem u9 : Tryz.prog.underlying 9 = some .string := by kernel_rfl
theorem u4 : Tryz.prog.underlying 4 = some .bool := by kernel_rfl
theorem u145 : Tryz.prog.underlying 145 = some (.map 9 4) := by kernel_rfl
theorem z4 (w : World) : (zeroValue 4).run Tryz.prog w = .ok (.bool false) w := by kernel_rfl
theorem Mp.made (w : World) : Mp (w.alloc (.map #[] 0)) w.heap.size 0 := ⟨_, World.ownsMap_made _ _ _ _⟩
theorem Mp.lt {w : World} {M k : Nat} (h : Mp w M k) : M < w.heap.size := h.choose_spec.lt
theorem Mp.chg {S : Nat → Prop} {w w' : World} {M k : Nat} (h : Mp w M k) (c : Chg S w w') (hn : ¬ S M) : Mp w' M k := by
  obtain ⟨D, es, cl, hb, h2⟩ := h
  have hlt : M < w.heap.size := World.ownsMap.lt ⟨es, cl, hb, h2⟩
  exact ⟨D, es, cl, (c.block M hlt hn).trans hb, h2⟩
theorem bool_inv {v : Value} {z : DataW Unit × List MemPlace} (h : plainElem Tryz.prog 4 v = some z) : ∃ b, v = .bool b := by
  unfold plainElem at h
  rw [u4] at h
  cases v <;> first | exact ⟨_, rfl⟩ | (simp at h)
theorem Mp.look {w : World} {M k : Nat} (h : Mp w M k) {s : ByteArray} (hs : s.size ≤ 4294967295) : ∃ b : Bool, (Instr.lookup 145 (.map (some M)) (.string s) false).run Tryz.prog w = .ok (.bool b) w := by
  obtain ⟨D, h⟩ := h
  obtain ⟨v, ps, hrun, hv⟩ := h.lookup (string_keyed u9) u145 (z4 w) (plainElem_bool u4 false) (WideMaps.keyOf_string_mk u9 (by unfold maxLen; omega) : keyOf Tryz.prog 9 (.string s) = _)
  obtain ⟨b, rfl⟩ := bool_inv hv
  exact ⟨b, hrun⟩
theorem Mp.put {w : World} {M k : Nat} (h : Mp w M k) {s : ByteArray} (hs : s.size ≤ 4294967295) (hk : k < 4294967295) (b : Bool) : ∃ w', (Instr.mapUpdate 145 (.map (some M)) (.string s) (.bool b)).run Tryz.prog w = .ok () w' ∧ Mp w' M (k + 1) ∧ Chg (fun g => g = M) w w' := by
  obtain ⟨D, h⟩ := h
  obtain ⟨w', hrun, r1, r2⟩ := h.update (string_keyed u9) u145 (by unfold maxLen; omega) (WideMaps.keyOf_string_mk u9 (by unfold maxLen; omega) : keyOf Tryz.prog 9 (.string s) = _) (plainElem_bool u4 b)
  exact ⟨w', hrun, ⟨_, r1⟩, Chg.of_grown r2 (fun k h => (Option.some.inj h).symm)⟩
noncomputable def st24 (a v : Value) (w : World) : Result Next := (do Instr.storeAt 24 a v; pure .skip : Sem Next).run Tryz.prog w
theorem exec_st24 (ρ : Operand → Value) (dst : Option Tmp) (a x : Operand) (ty : TypeId) (pos : String) (after : Array Edge) (gd : Option (Nat × Bool)) (w : World) : (execOp ρ { dst := dst, op := .store 24 a x, type := ty, pos := pos, after := after, guard := gd }).run Tryz.prog w = st24 (ρ a) (ρ x) w := rfl
def aput (cs : Array Value) (o : Nat) : List Value → Array Value
  | [] => cs
  | v :: l => aput (cs.setIfInBounds o v) (o + 1) l
theorem blk_puts {B : Nat} {t : TypeId} : ∀ (l : List Value) (o : Nat) (w : World) (cs : Array Value), Blk w B cs t → Blk (w.setCells B o l) B (aput cs o l) t
  | [], _, _, _, h => h
  | v :: l, o, _, _, h => blk_puts l (o + 1) _ _ (h.set o v)
theorem chg_puts {B : Nat} {w0 : World} : ∀ (l : List Value) (o : Nat) (w : World), Chg (fun k => k = B) w0 w → Chg (fun k => k = B) w0 (w.setCells B o l)
  | [], _, _, h => h
  | v :: l, o, _, h => chg_puts l (o + 1) _ (Chg.set (a := ⟨B, o, none⟩) h (fun _ => rfl) v)
theorem cf_one (v : Nat → Int) : (cf v).all (·.oneCell') = true := by kernel_rfl
theorem cf_puts (v v' : Nat → Int) : aput (cf v) 0 (cf v').toList = cf v' := by kernel_rfl
theorem st24_cf {w : World} {B : Nat} {v : Nat → Int} (hb : Blk w B (cf v) 24) (v' : Nat → Int) : ∃ w', st24 (.pointer (some ⟨B, 0, none⟩)) (.agg (cf v')) w = .ok .skip w' ∧ Blk w' B (cf v') 24 ∧ Chg (fun k => k = B) w w' := by
  refine ⟨w.setCells B 0 (cf v').toList, ?_, ?_, chg_puts _ _ _ (Chg.refl _ _)⟩
  · have ht : w.there B 0 (cf v').size := fun j hj => by
      rw [Nat.zero_add, hb.cell, hb.free]
      exact ⟨by rw [cf_at v j hj]; rfl, rfl⟩
    simp only [st24, Sem.run_bind, run_storeAt_mid (P := Tryz.prog) w B 0 24 (cf v') ht (by kernel_rfl) (cf_one v')]
    rfl
  · have := blk_puts (cf v').toList 0 w (cf v) hb
    rwa [cf_puts] at this
theorem extract_size (s : ByteArray) (i j : Nat) : (s.extract i j).size ≤ s.size := by
  rw [ByteArray.size_extract]; omega
theorem split_size (sep : ByteArray) (save : Nat) : ∀ (k : Nat) (s x : ByteArray), x ∈ Lib.splitB sep save k s → x.size ≤ s.size
  | 0, s, x, h => by
    rw [Lib.splitB_zero, List.mem_singleton] at h
    rw [h]; exact Nat.le_refl _
  | k + 1, s, x, h => by
    unfold Lib.splitB at h
    split at h
    · rw [List.mem_singleton] at h
      rw [h]; exact Nat.le_refl _
    · rcases List.mem_cons.1 h with h | h
      · rw [h]; exact extract_size _ _ _
      · exact Nat.le_trans (split_size sep save k _ x h) (extract_size _ _ _)
theorem trimB_len (l : List UInt8) (c : UInt8) : (Lib.trimB l c).length ≤ l.length := by
  unfold Lib.trimB Lib.trimLeftB Lib.trimRightB
  have h := ((List.dropWhile_sublist (fun x => x == c) (l := (l.reverse.dropWhile (fun x => x == c)).reverse)).length_le)
  have h2 := ((List.dropWhile_sublist (fun x => x == c) (l := l.reverse)).length_le)
  rw [List.length_reverse] at h h2
  exact Nat.le_trans h h2
end Go.Proofs.YtdgphoemjeakaaaGreatDoor.Tx
namespace Go.Proofs.YtdgphoemjeakaaaGreatDoor.Tx
open P
open Go.RowKit K Mg
set_option maxRecDepth 100000
@[local go_sem ↓] theorem exec_stL (ρ : Operand → Value) (dst : Option Tmp) (a x : Operand) (ty : TypeId) (pos : String) (after : Array Edge) (gd : Option (Nat × Bool)) (w : World) : (execOp ρ { dst := dst, op := .store 24 a x, type := ty, pos := pos, after := after, guard := gd }).run Tryz.prog w = st24 (ρ a) (ρ x) w := exec_st24 ..
def Pz (w0 : World) (v : Nat → Int) (m : Int) (k : Nat) (w : World) : Prop :=
  Chg No w0 w ∧ Blk w w0.heap.size (cf v) 24 ∧ (∃ u, Blk w (w0.heap.size + 1) (cf u) 24) ∧ Mp w (w0.heap.size + 2) k ∧ (∃ u, Blk w (w0.heap.size + 3) (cf u) 24) ∧ w.cell? ⟨0, 0, none⟩ = some (.int .i64 m) ∧ 0 < w0.heap.size
variable {w0 w w' : World} {v : Nat → Int} {m : Int} {k : Nat}
theorem Pz.turn {S : Nat → Prop} (h : Pz w0 v m k w) (c : Chg S w w') (h3 : ∀ g, S g → g = w0.heap.size + 3) (hu : ∃ u, Blk w' (w0.heap.size + 3) (cf u) 24) : Pz w0 v m k w' := by
  obtain ⟨h1, h2, ⟨u, hr⟩, hm, -, hc, hz⟩ := h
  refine ⟨h1.step c fun g hg hs => absurd (h3 g hs) (by omega), h2.chg c fun hs => by have := h3 _ hs; omega, ⟨u, hr.chg c fun hs => by have := h3 _ hs; omega⟩, hm.chg c fun hs => by have := h3 _ hs; omega, hu, ?_, hz⟩
  exact (World.cell?_of_block (c.block 0 (World.block_lt_of_cell? w _ hc) fun hs => by have := h3 _ hs; omega)).trans hc
theorem Pz.no (h : Pz w0 v m k w) (c : Chg No w w') : Pz w0 v m k w' := by
  obtain ⟨u, hb⟩ := h.2.2.2.2.1
  exact h.turn c (fun _ h => h.elim) ⟨u, hb.kept c⟩
theorem Pz.res (h : Pz w0 v m k w) (c : Chg (fun g => g = w0.heap.size + 1) w w') : Chg No w0 w' := h.1.step c fun g hg hs => absurd hs (by omega)
theorem Pz.put (h : Pz w0 v m k w) (c : Chg (fun g => g = w0.heap.size + 2) w w') (hm : Mp w' (w0.heap.size + 2) (k + 1)) : Pz w0 v m (k + 1) w' := by
  obtain ⟨h1, h2, ⟨u, hr⟩, -, ⟨u2, h3⟩, hc, hz⟩ := h
  refine ⟨h1.step c fun g hg hs => absurd hs (by omega), h2.chg c fun hs => by omega, ⟨u, hr.chg c fun hs => by omega⟩, hm, ⟨u2, h3.chg c fun hs => by omega⟩, ?_, hz⟩
  exact (World.cell?_of_block (c.block 0 (World.block_lt_of_cell? w _ hc) fun hs => by omega)).trans hc
theorem Pz.row (h : Pz w0 v m k w) : rowOf w w0.heap.size 0 20 = some (.agg (cf v)) := by
  have := rowOf_blk h.2.1
  rwa [cf_size] at this
theorem Mp.mono {M n : Nat} (h : Mp w M k) (hn : k ≤ n) : Mp w M n := ⟨_, h.choose_spec.mono hn⟩
theorem Pz.more (h : Pz w0 v m k w) : Pz w0 v m (k + 1) w := ⟨h.1, h.2.1, h.2.2.1, h.2.2.2.1.mono (Nat.le_succ k), h.2.2.2.2⟩
theorem Pz.rowB (h : Pz w0 v m k w) : ∃ u, rowOf w (w0.heap.size + 2 + 1) 0 20 = some (.agg (cf u)) := by
  obtain ⟨u, hb⟩ := h.2.2.2.2.1
  have := rowOf_blk hb
  rw [cf_size] at this
  exact ⟨u, this⟩
theorem res_three (fn : Func) (a : Tmp) (t : TypeId) (x : Addr) (v : Value) (b c : Tmp) (tmps : Array Value) (w : World) (hf : fn.results = #[.cell a t, .tmp b, .tmp c]) (ha : tmps.getD a undef = .pointer (some x)) (h : (loadVar t x).run Tryz.prog w = .ok v w) : (results fn tmps).run Tryz.prog w = .ok (.tuple #[v, tmps.getD b undef, tmps.getD c undef]) w := by
  have ha2 : tmps[a]?.getD undef = .pointer (some x) := by rw [← Array.getD_eq_getD_getElem?]; exact ha
  unfold results
  rw [hf]
  simp [ha2, asAddr, h]
theorem lv24 {w : World} {B : Nat} {cs : Array Value} (h : rowOf w B 0 20 = some (.agg cs)) : (loadVar 24 ⟨B, 0, none⟩).run Tryz.prog w = .ok (.agg cs) w := by
  have h24 := load24 (w := w) (b := B) (o := 0) (by rw [h]; rfl)
  rw [h] at h24
  simp only [Instr.loadAt, Instr.sureAddr, Sem.run_bind, Sem.run_pure, Result.andThen_ok, Option.getD_some] at h24
  exact h24
theorem pz_start {w w1 : World} {v : Nat → Int} {m : Int} (z1 : w1.heap.size = w.heap.size + 2) (hP : Blk w1 w.heap.size (cf v) 24) (hR : Blk w1 (w.heap.size + 1) (cf fun _ => 0) 24) (hC : Chg No w w1) (hm : w.cell? ⟨0, 0, none⟩ = some (.int .i64 m)) :
    ∃ w', st24 (.pointer (some ⟨w.heap.size + 2 + 1, 0, none⟩)) (.agg (cf v)) ((w1.alloc (.map #[] 0)).alloc (.cells #[Value.int IntKind.i64 0, Value.int IntKind.i64 0, Value.int IntKind.i64 0, Value.int IntKind.i64 0, Value.int IntKind.i64 0, Value.int IntKind.i64 0, Value.int IntKind.i64 0, Value.int IntKind.i64 0, Value.int IntKind.i64 0, Value.int IntKind.i64 0, Value.int IntKind.i64 0, Value.int IntKind.i64 0, Value.int IntKind.i64 0, Value.int IntKind.i64 0, Value.int IntKind.i64 0, Value.int IntKind.i64 0, Value.int IntKind.i64 0, Value.int IntKind.i64 0, Value.int IntKind.i64 0, Value.int IntKind.i64 0] 24)) = .ok .skip w' ∧ Pz w v m 0 w' := by
  have z2 : (w1.alloc (.map #[] 0)).heap.size = w.heap.size + 3 := by rw [show w.heap.size + 3 = w1.heap.size + 1 from by omega]; simp
  have hB : Blk ((w1.alloc (.map #[] 0)).alloc (.cells (cf fun _ => 0) 24)) (w.heap.size + 3) (cf fun _ => 0) 24 := by
    have := Blk.new (w1.alloc (.map #[] 0)) (cf fun _ => 0) 24
    rwa [z2] at this
  have hM : Mp ((w1.alloc (.map #[] 0)).alloc (.cells (cf fun _ => 0) 24)) (w.heap.size + 2) 0 := by
    have := (Mp.made w1).chg ((Chg.refl No _).alloc (.cells (cf fun _ => 0) 24)) fun h => h
    rwa [z1] at this
  have hz := World.block_lt_of_cell? w _ hm
  obtain ⟨w', e, b', c'⟩ := st24_cf hB v
  refine ⟨w', e, ?_⟩
  have hC2 : Chg No w ((w1.alloc (.map #[] 0)).alloc (.cells (cf fun _ => 0) 24)) := (hC.alloc _).alloc _
  exact Pz.turn (S := fun g => g = w.heap.size + 3) (w := (w1.alloc (.map #[] 0)).alloc (.cells (cf fun _ => 0) 24)) ⟨hC2, (hP.alloc _).alloc _, ⟨_, (hR.alloc _).alloc _⟩, hM, ⟨_, hB⟩, cellk hC2 hm, by simpa using hz⟩ c' (fun _ h => h) ⟨v, b'⟩
set_option maxHeartbeats 2000000 in
theorem parse_any (v : Nat → Int) (s : ByteArray) (w : World) (hs : s.size ≤ 1000000) (m : Int) (hm : w.cell? ⟨0, 0, none⟩ = some (.int .i64 m)) :
    Calls Tryz.prog 56 #[.agg (cf v), .string s] w fun e w' => ∃ (v' : Nat → Int) (code line : Int), e = .returned (.tuple #[.agg (cf v'), .int .i64 code, .int .i64 line]) ∧ (code = 0 → mayB v' = true) ∧ Chg No w w' := by
  have SH := Lib.hid hm
  clear hm
  have hmm := @run_makeMap Tryz.prog
  go_enter Tryz.func56, Tryz.ntmps56
  go_wp2_with fail
  have z1 : ((w.alloc (.cells (cf v) 24)).alloc (.cells #[Value.int IntKind.i64 0, Value.int IntKind.i64 0, Value.int IntKind.i64 0, Value.int IntKind.i64 0, Value.int IntKind.i64 0, Value.int IntKind.i64 0, Value.int IntKind.i64 0, Value.int IntKind.i64 0, Value.int IntKind.i64 0, Value.int IntKind.i64 0, Value.int IntKind.i64 0, Value.int IntKind.i64 0, Value.int IntKind.i64 0, Value.int IntKind.i64 0, Value.int IntKind.i64 0, Value.int IntKind.i64 0, Value.int IntKind.i64 0, Value.int IntKind.i64 0, Value.int IntKind.i64 0, Value.int IntKind.i64 0] 24)).heap.size = w.heap.size + 2 := by simp
  have hP : Blk ((w.alloc (.cells (cf v) 24)).alloc (.cells #[Value.int IntKind.i64 0, Value.int IntKind.i64 0, Value.int IntKind.i64 0, Value.int IntKind.i64 0, Value.int IntKind.i64 0, Value.int IntKind.i64 0, Value.int IntKind.i64 0, Value.int IntKind.i64 0, Value.int IntKind.i64 0, Value.int IntKind.i64 0, Value.int IntKind.i64 0, Value.int IntKind.i64 0, Value.int IntKind.i64 0, Value.int IntKind.i64 0, Value.int IntKind.i64 0, Value.int IntKind.i64 0, Value.int IntKind.i64 0, Value.int IntKind.i64 0, Value.int IntKind.i64 0, Value.int IntKind.i64 0] 24)) w.heap.size (cf v) 24 := (Blk.new w (cf v) 24).alloc _
  have hR : Blk ((w.alloc (.cells (cf v) 24)).alloc (.cells #[Value.int IntKind.i64 0, Value.int IntKind.i64 0, Value.int IntKind.i64 0, Value.int IntKind.i64 0, Value.int IntKind.i64 0, Value.int IntKind.i64 0, Value.int IntKind.i64 0, Value.int IntKind.i64 0, Value.int IntKind.i64 0, Value.int IntKind.i64 0, Value.int IntKind.i64 0, Value.int IntKind.i64 0, Value.int IntKind.i64 0, Value.int IntKind.i64 0, Value.int IntKind.i64 0, Value.int IntKind.i64 0, Value.int IntKind.i64 0, Value.int IntKind.i64 0, Value.int IntKind.i64 0, Value.int IntKind.i64 0] 24)) (w.heap.size + 1) (cf fun _ => 0) 24 := by
    have := Blk.new (w.alloc (.cells (cf v) 24)) (cf fun _ => 0) 24
    rwa [show (w.alloc (.cells (cf v) 24)).heap.size = w.heap.size + 1 from by simp] at this
  have hC : Chg No w ((w.alloc (.cells (cf v) 24)).alloc (.cells #[Value.int IntKind.i64 0, Value.int IntKind.i64 0, Value.int IntKind.i64 0, Value.int IntKind.i64 0, Value.int IntKind.i64 0, Value.int IntKind.i64 0, Value.int IntKind.i64 0, Value.int IntKind.i64 0, Value.int IntKind.i64 0, Value.int IntKind.i64 0, Value.int IntKind.i64 0, Value.int IntKind.i64 0, Value.int IntKind.i64 0, Value.int IntKind.i64 0, Value.int IntKind.i64 0, Value.int IntKind.i64 0, Value.int IntKind.i64 0, Value.int IntKind.i64 0, Value.int IntKind.i64 0, Value.int IntKind.i64 0] 24)) := ((Chg.refl No w).alloc _).alloc _
  generalize (w.alloc (.cells (cf v) 24)).alloc (.cells #[Value.int IntKind.i64 0, Value.int IntKind.i64 0, Value.int IntKind.i64 0, Value.int IntKind.i64 0, Value.int IntKind.i64 0, Value.int IntKind.i64 0, Value.int IntKind.i64 0, Value.int IntKind.i64 0, Value.int IntKind.i64 0, Value.int IntKind.i64 0, Value.int IntKind.i64 0, Value.int IntKind.i64 0, Value.int IntKind.i64 0, Value.int IntKind.i64 0, Value.int IntKind.i64 0, Value.int IntKind.i64 0, Value.int IntKind.i64 0, Value.int IntKind.i64 0, Value.int IntKind.i64 0, Value.int IntKind.i64 0] 24) = w1 at *
  have hr := rowOf_blk hP
  rw [cf_size] at hr
  try rw [ld24_is hr]
  have zz := pz_start z1 hP hR hC SH.out
  clear hP hR hC hr
  go_wp2_with fail
  obtain ⟨w2, e2, pz2⟩ := zz
  rw [e2]
  clear e2
  have PZ := Lib.hid pz2
  have sz2 : w.heap.size + 4 ≤ w2.heap.size := pz2.2.2.2.2.1.choose_spec.lt
  clear pz2 z1
  go_wp2_with fail
  refine (Tryz.strings_Split s _ m w2 (by omega) PZ.out.2.2.2.2.2.1 (by decide)).mono ?_
  rintro e w3 ⟨rfl, hw3⟩
  have hL : Blk w3 w2.heap.size ((Lib.splitB ⟨#[10]⟩ 0 (Lib.countB s ⟨#[10]⟩) s).map Value.string).toArray 9 := by rw [hw3]; exact Blk.new ..
  have hc3 : Chg No w2 w3 := by rw [hw3]; exact (Chg.refl No _).alloc _
  have hcn : Lib.countB s ⟨#[10]⟩ ≤ 1000000 := Nat.le_trans (Lib.countB_le _ (by decide) _ s (Nat.le_refl _)) hs
  have hln := Lib.splitB_all ⟨#[10]⟩ (by decide) 0 _ s rfl
  have hsz := fun x => split_size ⟨#[10]⟩ 0 (Lib.countB s ⟨#[10]⟩) s x
  generalize Lib.splitB ⟨#[10]⟩ 0 (Lib.countB s ⟨#[10]⟩) s = ls at *
  generalize Lib.countB s ⟨#[10]⟩ = cn at *
  have P3 := Lib.hid (PZ.out.no hc3)
  have L3 := Lib.hid (And.intro hL sz2)
  generalize hLB : w2.heap.size = LB at *
  have HL := Lib.hid hln
  have HS := Lib.hid hsz
  clear PZ hL hc3 hw3 hLB hln hsz sz2
  go_wp2_with fail
  go_loopw [22] (fun i wr => ∃ k : Nat, k ≤ cn + 1 ∧ i = .int .i64 k ∧ Hid (Pz w v m k wr) ∧ Hid (Blk wr LB (ls.map Value.string).toArray 9 ∧ w.heap.size + 4 ≤ LB)) (fun i _ => cn + 1 - (intOf i).toNat)
  case atStart => exact ⟨0, by omega, rfl, P3, L3⟩
  case round =>
    obtain ⟨k, hk, rfl, PK, LK⟩ := hrel
    by_cases hlt : k < cn + 1
    · obtain ⟨x, hx, zx⟩ : ∃ x : ByteArray, wr.cell? ⟨LB, k, none⟩ = some (.string x) ∧ x.size ≤ 1000000 := by
        have hk2 : k < ls.length := by rw [HL.out]; exact hlt
        refine ⟨ls[k], ?_, Nat.le_trans (HS.out _ (List.getElem_mem hk2)) hs⟩
        rw [LK.out.1.cell]
        simp [hk2]
      go_wp2_with fail
      refine (Tryz.strings_Trim_one x 32 (by decide) wr (by omega)).mono ?_
      rintro e w4 ⟨rfl, hw4⟩
      have hc4 : Chg No wr w4 := by
        rcases hw4 with rfl | rfl
        · exact Chg.refl _ _
        · exact (Chg.refl No _).drew
      have z4 : (⟨(Lib.trimB x.data.toList 32).toArray⟩ : ByteArray).size ≤ 1000000 := by
        rw [mk_size]
        refine Nat.le_trans (trimB_len _ _) ?_
        rw [← Lib.size_eq]; exact zx
      generalize (⟨(Lib.trimB x.data.toList 32).toArray⟩ : ByteArray) = x1 at *
      have P4 := Lib.hid (PK.out.no hc4)
      have L4 := Lib.hid (And.intro (LK.out.1.kept hc4) LK.out.2)
      clear hw4 hc4 hx zx PK LK
      by_cases he : x1.size = 0
      · have k0 : x1.toList.isEmpty = true := by
          rw [← decide_eq_emptyBytes]
          exact decide_eq_true (ByteArray.size_eq_zero_iff.1 he)
        go_wp2_with fail
        go_roundw
        case rel => exact ⟨k + 1, by omega, by go_num, Lib.hid P4.out.more, L4⟩
        case measure => simp [intOf]; omega
      · have k0 : x1.toList.isEmpty = false := by
          rw [← decide_eq_emptyBytes]
          exact decide_eq_false fun e => he (by rw [e]; rfl)
        have hp : 0 < x1.size := Nat.pos_of_ne_zero he
        clear he
        go_wp2_with fail
        · go_roundw
          case rel => exact ⟨k + 1, by omega, by go_num, Lib.hid P4.out.more, L4⟩
          case measure => simp [intOf]; omega
        · refine (Tryz.strings_Cut x1 _ m w4 (by omega) P4.out.2.2.2.2.2.1).mono ?_
          rintro e w5 ⟨rfl, nd, hw5⟩
          have z5 := cut_len x1.data.toList (⟨#[58, 32]⟩ : ByteArray).data.toList
          rw [← Lib.size_eq, ← mk_size, ← mk_size] at z5
          generalize (⟨(Lib.cut x1.data.toList (⟨#[58, 32]⟩ : ByteArray).data.toList).1.toArray⟩ : ByteArray) = nm at *
          generalize (⟨(Lib.cut x1.data.toList (⟨#[58, 32]⟩ : ByteArray).data.toList).2.1.toArray⟩ : ByteArray) = vl at *
          generalize (Lib.cut x1.data.toList (⟨#[58, 32]⟩ : ByteArray).data.toList).2.2 = fd at *
          have hc5 : Chg No w4 w5 := by rw [hw5]; exact (Chg.refl No _).drewN _
          have P5 := Lib.hid (P4.out.no hc5)
          have L5 := Lib.hid (And.intro (L4.out.1.kept hc5) L4.out.2)
          obtain ⟨z6, z7⟩ := z5
          clear hw5 hc5 P4 L4
          go_wp2_with fail
          refine (parts_any (w.heap.size + 2 + 1) w5).mono ?_
          rintro e w6 ⟨N, rfl, hN, hNn, hc6⟩
          have P6 := Lib.hid (P5.out.no hc6)
          have L6 := Lib.hid (And.intro (L5.out.1.kept hc6) L5.out.2)
          have N6 := Lib.hid hN
          clear hN hNn hc6 P5 L5
          go_wp2_with fail
          go_loopw [14, 44] (fun g i wr => ∃ (j : Nat) (b : Bool), j ≤ 20 ∧ g = .bool b ∧ i = .int .i64 j ∧ Hid (Pz w v m k wr) ∧ Hid (Blk wr LB (ls.map Value.string).toArray 9 ∧ w.heap.size + 4 ≤ LB) ∧ Hid (Blk wr N (partsP (w.heap.size + 2 + 1)) 154)) (fun _ i _ => 20 - (intOf i).toNat)
          case atStart => exact ⟨0, false, by omega, rfl, rfl, P6, L6, N6⟩
          case round =>
            clear P6 L6 N6
            obtain ⟨j, bg, hj, rfl, rfl, PJ, LJ, NJ⟩ := hrel
            by_cases hlj : j < 20
            · obtain ⟨⟨x, hx0⟩, hx1⟩ := partsP_at (w.heap.size + 2 + 1) j hlj
              have c0 : wr.cell? ⟨N, j * 2, none⟩ = some (.string x) := by rw [NJ.out.cell]; exact hx0
              have c1 : wr.cell? ⟨N, j * 2 + 1, none⟩ = some (.iface (pty j) (.pointer (some ⟨w.heap.size + 2 + 1, j, none⟩))) := by rw [NJ.out.cell]; exact hx1
              have hca := (Chg.refl No wr).alloc (.cells #[.string x, .iface (pty j) (.pointer (some ⟨w.heap.size + 2 + 1, j, none⟩))] 154)
              obtain ⟨b2, lk⟩ := (PJ.out.no hca).2.2.2.1.look (s := nm) (by omega)
              have PA := Lib.hid (PJ.out.no hca)
              have LA := Lib.hid (And.intro (LJ.out.1.kept hca) LJ.out.2)
              have NA := Lib.hid (NJ.out.kept hca)
              clear hca hx0 hx1 PJ LJ NJ
              go_wp2_with fail
              · obtain ⟨u, hB⟩ := PA.out.2.2.2.2.1
                refine (set_any x vl j (w.heap.size + 2 + 1) hlj u _ hB (by omega) m PA.out.2.2.2.2.2.1).mono ?_
                rintro e w7 ⟨b3, rfl, hc7, hu7⟩
                have P7 := Lib.hid (PA.out.turn hc7 (fun _ h => h) hu7)
                have L7 := Lib.hid (And.intro (LA.out.1.chg hc7 fun h => by have h2 := LA.out.2; omega) LA.out.2)
                have N7 := Lib.hid (NA.out.chg hc7 fun h => by rw [h] at NA; exact (NA.out.ne hB (by decide)) rfl)
                clear hc7 hu7 PA LA NA hB lk c0 c1
                go_wp2_with fail
                go_roundw
                case rel => exact ⟨j + 1, _, by omega, rfl, by go_num, P7, L7, N7⟩
                case measure => simp [intOf]; omega
              · go_roundw
                case rel => exact ⟨j + 1, _, by omega, rfl, by go_num, PA, LA, NA⟩
                case measure => simp [intOf]; omega
              · go_roundw
                case rel => exact ⟨j + 1, _, by omega, rfl, by go_num, PA, LA, NA⟩
                case measure => simp [intOf]; omega
            · obtain ⟨w8, e8, m8, hc8⟩ := PJ.out.2.2.2.1.put (s := nm) (by omega) (by omega) true
              have P8 := Lib.hid (PJ.out.put hc8 m8)
              have L8 := Lib.hid (And.intro (LJ.out.1.chg hc8 fun h => by have h2 := LJ.out.2; omega) LJ.out.2)
              clear m8 hc8 PJ LJ NJ
              cases bg with
              | true =>
                go_wp2_with fail
                go_roundw
                case rel => exact ⟨k + 1, by omega, by go_num, P8, L8⟩
                case measure => simp [intOf]; omega
              | false =>
                obtain ⟨u8, hR⟩ := P8.out.2.2.1
                obtain ⟨w9, e9, hR9, hc9⟩ := st24_cf hR v
                have C9 := Lib.hid (P8.out.res hc9)
                have hr8 := P8.out.row
                have B9 := Lib.hid hR9
                clear hR9 hc9 hR P8 L8
                go_wp2_with fail
                have hv := rowOf_blk B9.out
                rw [cf_size] at hv
                exact bodyPost_ret (res_three _ _ _ _ _ _ _ _ _ rfl rfl (lv24 hv)) rfl ⟨_, _, _, rfl, (fun h => absurd h (by decide)), C9.out⟩
    · obtain ⟨u, hu⟩ := PK.out.rowB
      go_wp2_with fail
      refine (may_any u wr).mono ?_
      rintro e w7 ⟨rfl, hc7⟩
      have P7 := Lib.hid (PK.out.no hc7)
      obtain ⟨u1, hR⟩ := P7.out.2.2.1
      cases hmu : mayB u with
      | false =>
        obtain ⟨w9, e9, hR9, hc9⟩ := st24_cf hR v
        have C9 := Lib.hid (P7.out.res hc9)
        have hr8 := P7.out.row
        have B9 := Lib.hid hR9
        clear hR9 hc9 hR P7 hc7 PK LK hmu
        go_wp2_with fail
        have hv := rowOf_blk B9.out
        rw [cf_size] at hv
        exact bodyPost_ret (res_three _ _ _ _ _ _ _ _ _ rfl rfl (lv24 hv)) rfl ⟨_, _, _, rfl, (fun h => absurd h (by decide)), C9.out⟩
      | true =>
        obtain ⟨w9, e9, hR9, hc9⟩ := st24_cf hR u
        have C9 := Lib.hid (P7.out.res hc9)
        have hr8 : rowOf w7 (w.heap.size + 2 + 1) 0 20 = some (.agg (cf u)) := by
          rw [rowOf_same 0 20 (hc7.block _ PK.out.2.2.2.2.1.choose_spec.lt fun h => h)]; exact hu
        have B9 := Lib.hid hR9
        have HM := Lib.hid hmu
        clear hR9 hc9 hR P7 hc7 PK LK hmu hu
        go_wp2_with fail
        have hv := rowOf_blk B9.out
        rw [cf_size] at hv
        exact bodyPost_ret (res_three _ _ _ _ _ _ _ _ _ rfl rfl (lv24 hv)) rfl ⟨_, _, _, rfl, (fun _ => HM.out), C9.out⟩
end Go.Proofs.YtdgphoemjeakaaaGreatDoor.Tx
