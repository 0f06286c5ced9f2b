/-
  No cell of these rows narrows 'for every input' (looked for: loops, veiled, ifaces, maps, wideKeys, modest, calm, conditions, laid).
  DERIVED. THE GIVEN ROWS OF THIS SEAT. 16 by the template 'for every input the law returns true; each argument reads behind the call as it read before'; 0 by the template 'total and deterministic' (their statements: YtnlfocmmnjgmpaaTotals.lean).
  GIVEN WITH THE SEED: the statements are not yours to turn. If you find one false, say at which input.
  Laid BY PROGRAM, IN A SANDBOX (cutbox-rows.mjs): the forced cells as the released guide's own fill.sh prints them over the translation 3bfcf5da31026325… (all of the seat's roots in one cut). By AI agents, Wed Nov 11 2026. No macro, syntax, notation, axiom, sorry.
-/
import Derived.Test.YtnlfocmmnjgmpaaChecked
import GoSem.Claim
import GoSem.ClaimJoined
import GoSem.ClaimMapViews
import Derived.JoinedTies
import Derived.KernelRfl
namespace Go.Proofs.Ytnlfocmmnjgmpaa
/- THE CELL 'sum', in the pinned program and in every row, IS THE sha256 OF THE DUMP (.gsa) THAT YtnlfocmmnjgmpaaProg.lean LOADS. Nothing in Lean hashes anything: it is a label: what it is worth is what the hold of that sum in a sandbox is worth. -/
noncomputable def Try.pinned : Pinned := { name := "ytnlfocmmnjgmpaa", sum := "3bfcf5da31026325192b6867da1be0a90905eb38a298a4b478f440e8ae220589", checked := Try.checked }
namespace Rows
def none {H : Type} : Left H := { results := [], args := [] }

/-- 'spinnakerlaw2.LoadMoves': WHATEVER THE INPUT: true; the input reads as it did. -/
def loadMovesSpec : ChangeSpec := { name := "loadMoves", fn := fun _ => fun
  | [d1, d2, d3] => { results := [.lit (.bool true)], args := [d1, d2, d3] }
  | _ => none }
def loadMovesRow : OpenClaim := { program := "ytnlfocmmnjgmpaa", sum := "3bfcf5da31026325192b6867da1be0a90905eb38a298a4b478f440e8ae220589", func := "spinnaker/spinnakerlaw2.LoadMoves", spec := "loadMoves", apart := false }
def LoadMovesSaid : Prop := loadMovesRow.holds Try.pinned (OpenSpec.ofChange loadMovesSpec)

/-- ITS FALSE NEIGHBOUR: 'it returns false'. Refute it at one input. -/
def loadMovesWrong : ChangeSpec := { name := "loadMoves", fn := fun _ => fun
  | [d1, d2, d3] => { results := [.lit (.bool false)], args := [d1, d2, d3] }
  | _ => none }
def LoadMovesWrongFalsely : Prop := loadMovesRow.holds Try.pinned (OpenSpec.ofChange loadMovesWrong)

/-- 'spinnakerlaw2.LoadOrders': WHATEVER THE INPUT: true; the input reads as it did. -/
def loadOrdersSpec : ChangeSpec := { name := "loadOrders", fn := fun _ => fun
  | [d1, d2, d3] => { results := [.lit (.bool true)], args := [d1, d2, d3] }
  | _ => none }
def loadOrdersRow : OpenClaim := { program := "ytnlfocmmnjgmpaa", sum := "3bfcf5da31026325192b6867da1be0a90905eb38a298a4b478f440e8ae220589", func := "spinnaker/spinnakerlaw2.LoadOrders", spec := "loadOrders", apart := false }
def LoadOrdersSaid : Prop := loadOrdersRow.holds Try.pinned (OpenSpec.ofChange loadOrdersSpec)

/-- ITS FALSE NEIGHBOUR: 'it returns false'. Refute it at one input. -/
def loadOrdersWrong : ChangeSpec := { name := "loadOrders", fn := fun _ => fun
  | [d1, d2, d3] => { results := [.lit (.bool false)], args := [d1, d2, d3] }
  | _ => none }
def LoadOrdersWrongFalsely : Prop := loadOrdersRow.holds Try.pinned (OpenSpec.ofChange loadOrdersWrong)

/-- 'spinnakerlaw2.LoadSums': WHATEVER THE INPUT: true; the input reads as it did. -/
def loadSumsSpec : ChangeSpec := { name := "loadSums", fn := fun _ => fun
  | [d1, d2] => { results := [.lit (.bool true)], args := [d1, d2] }
  | _ => none }
def loadSumsRow : OpenClaim := { program := "ytnlfocmmnjgmpaa", sum := "3bfcf5da31026325192b6867da1be0a90905eb38a298a4b478f440e8ae220589", func := "spinnaker/spinnakerlaw2.LoadSums", spec := "loadSums", apart := false }
def LoadSumsSaid : Prop := loadSumsRow.holds Try.pinned (OpenSpec.ofChange loadSumsSpec)

/-- ITS FALSE NEIGHBOUR: 'it returns false'. Refute it at one input. -/
def loadSumsWrong : ChangeSpec := { name := "loadSums", fn := fun _ => fun
  | [d1, d2] => { results := [.lit (.bool false)], args := [d1, d2] }
  | _ => none }
def LoadSumsWrongFalsely : Prop := loadSumsRow.holds Try.pinned (OpenSpec.ofChange loadSumsWrong)

/-- 'spinnakerlaw19.PickNone': WHATEVER THE INPUT: true; the input reads as it did. -/
def pickNoneSpec : ChangeSpec := { name := "pickNone", fn := fun _ => fun
  | [d1, d2] => { results := [.lit (.bool true)], args := [d1, d2] }
  | _ => none }
def pickNoneRow : OpenClaim := { program := "ytnlfocmmnjgmpaa", sum := "3bfcf5da31026325192b6867da1be0a90905eb38a298a4b478f440e8ae220589", func := "spinnaker/spinnakerlaw19.PickNone", spec := "pickNone", apart := false }
def PickNoneSaid : Prop := pickNoneRow.holds Try.pinned (OpenSpec.ofChange pickNoneSpec)

/-- ITS FALSE NEIGHBOUR: 'it returns false'. Refute it at one input. -/
def pickNoneWrong : ChangeSpec := { name := "pickNone", fn := fun _ => fun
  | [d1, d2] => { results := [.lit (.bool false)], args := [d1, d2] }
  | _ => none }
def PickNoneWrongFalsely : Prop := pickNoneRow.holds Try.pinned (OpenSpec.ofChange pickNoneWrong)

/-- 'spinnakerlaw19.PickEven': WHATEVER THE INPUT: true; the input reads as it did. -/
def pickEvenSpec : ChangeSpec := { name := "pickEven", fn := fun _ => fun
  | [d1, d2, d3] => { results := [.lit (.bool true)], args := [d1, d2, d3] }
  | _ => none }
def pickEvenRow : OpenClaim := { program := "ytnlfocmmnjgmpaa", sum := "3bfcf5da31026325192b6867da1be0a90905eb38a298a4b478f440e8ae220589", func := "spinnaker/spinnakerlaw19.PickEven", spec := "pickEven", apart := false }
def PickEvenSaid : Prop := pickEvenRow.holds Try.pinned (OpenSpec.ofChange pickEvenSpec)

/-- ITS FALSE NEIGHBOUR: 'it returns false'. Refute it at one input. -/
def pickEvenWrong : ChangeSpec := { name := "pickEven", fn := fun _ => fun
  | [d1, d2, d3] => { results := [.lit (.bool false)], args := [d1, d2, d3] }
  | _ => none }
def PickEvenWrongFalsely : Prop := pickEvenRow.holds Try.pinned (OpenSpec.ofChange pickEvenWrong)

/-- 'spinnakerlaw19.PickLeast': WHATEVER THE INPUT: true; the input reads as it did. -/
def pickLeastSpec : ChangeSpec := { name := "pickLeast", fn := fun _ => fun
  | [d1, d2] => { results := [.lit (.bool true)], args := [d1, d2] }
  | _ => none }
def pickLeastRow : OpenClaim := { program := "ytnlfocmmnjgmpaa", sum := "3bfcf5da31026325192b6867da1be0a90905eb38a298a4b478f440e8ae220589", func := "spinnaker/spinnakerlaw19.PickLeast", spec := "pickLeast", apart := false }
def PickLeastSaid : Prop := pickLeastRow.holds Try.pinned (OpenSpec.ofChange pickLeastSpec)

/-- ITS FALSE NEIGHBOUR: 'it returns false'. Refute it at one input. -/
def pickLeastWrong : ChangeSpec := { name := "pickLeast", fn := fun _ => fun
  | [d1, d2] => { results := [.lit (.bool false)], args := [d1, d2] }
  | _ => none }
def PickLeastWrongFalsely : Prop := pickLeastRow.holds Try.pinned (OpenSpec.ofChange pickLeastWrong)

/-- 'spinnakerlaw7.BreakerNone': WHATEVER THE INPUT: true; the input reads as it did. -/
def breakerNoneSpec : ChangeSpec := { name := "breakerNone", fn := fun _ => fun
  | [d1, d2, d3] => { results := [.lit (.bool true)], args := [d1, d2, d3] }
  | _ => none }
def breakerNoneRow : OpenClaim := { program := "ytnlfocmmnjgmpaa", sum := "3bfcf5da31026325192b6867da1be0a90905eb38a298a4b478f440e8ae220589", func := "spinnaker/spinnakerlaw7.BreakerNone", spec := "breakerNone", apart := false }
def BreakerNoneSaid : Prop := breakerNoneRow.holds Try.pinned (OpenSpec.ofChange breakerNoneSpec)

/-- ITS FALSE NEIGHBOUR: 'it returns false'. Refute it at one input. -/
def breakerNoneWrong : ChangeSpec := { name := "breakerNone", fn := fun _ => fun
  | [d1, d2, d3] => { results := [.lit (.bool false)], args := [d1, d2, d3] }
  | _ => none }
def BreakerNoneWrongFalsely : Prop := breakerNoneRow.holds Try.pinned (OpenSpec.ofChange breakerNoneWrong)

/-- 'spinnakerlaw7.BreakerPlays': WHATEVER THE INPUT: true; the input reads as it did. -/
def breakerPlaysSpec : ChangeSpec := { name := "breakerPlays", fn := fun _ => fun
  | [d1, d2, d3] => { results := [.lit (.bool true)], args := [d1, d2, d3] }
  | _ => none }
def breakerPlaysRow : OpenClaim := { program := "ytnlfocmmnjgmpaa", sum := "3bfcf5da31026325192b6867da1be0a90905eb38a298a4b478f440e8ae220589", func := "spinnaker/spinnakerlaw7.BreakerPlays", spec := "breakerPlays", apart := false }
def BreakerPlaysSaid : Prop := breakerPlaysRow.holds Try.pinned (OpenSpec.ofChange breakerPlaysSpec)

/-- ITS FALSE NEIGHBOUR: 'it returns false'. Refute it at one input. -/
def breakerPlaysWrong : ChangeSpec := { name := "breakerPlays", fn := fun _ => fun
  | [d1, d2, d3] => { results := [.lit (.bool false)], args := [d1, d2, d3] }
  | _ => none }
def BreakerPlaysWrongFalsely : Prop := breakerPlaysRow.holds Try.pinned (OpenSpec.ofChange breakerPlaysWrong)

/-- 'spinnakerlaw7.BreakerHolds': WHATEVER THE INPUT: true; the input reads as it did. -/
def breakerHoldsSpec : ChangeSpec := { name := "breakerHolds", fn := fun _ => fun
  | [d1, d2, d3] => { results := [.lit (.bool true)], args := [d1, d2, d3] }
  | _ => none }
def breakerHoldsRow : OpenClaim := { program := "ytnlfocmmnjgmpaa", sum := "3bfcf5da31026325192b6867da1be0a90905eb38a298a4b478f440e8ae220589", func := "spinnaker/spinnakerlaw7.BreakerHolds", spec := "breakerHolds", apart := false }
def BreakerHoldsSaid : Prop := breakerHoldsRow.holds Try.pinned (OpenSpec.ofChange breakerHoldsSpec)

/-- ITS FALSE NEIGHBOUR: 'it returns false'. Refute it at one input. -/
def breakerHoldsWrong : ChangeSpec := { name := "breakerHolds", fn := fun _ => fun
  | [d1, d2, d3] => { results := [.lit (.bool false)], args := [d1, d2, d3] }
  | _ => none }
def BreakerHoldsWrongFalsely : Prop := breakerHoldsRow.holds Try.pinned (OpenSpec.ofChange breakerHoldsWrong)

/-- 'spinnakerlaw7.BreakerFull': WHATEVER THE INPUT: true; the input reads as it did. -/
def breakerFullSpec : ChangeSpec := { name := "breakerFull", fn := fun _ => fun
  | [d1, d2] => { results := [.lit (.bool true)], args := [d1, d2] }
  | _ => none }
def breakerFullRow : OpenClaim := { program := "ytnlfocmmnjgmpaa", sum := "3bfcf5da31026325192b6867da1be0a90905eb38a298a4b478f440e8ae220589", func := "spinnaker/spinnakerlaw7.BreakerFull", spec := "breakerFull", apart := false }
def BreakerFullSaid : Prop := breakerFullRow.holds Try.pinned (OpenSpec.ofChange breakerFullSpec)

/-- ITS FALSE NEIGHBOUR: 'it returns false'. Refute it at one input. -/
def breakerFullWrong : ChangeSpec := { name := "breakerFull", fn := fun _ => fun
  | [d1, d2] => { results := [.lit (.bool false)], args := [d1, d2] }
  | _ => none }
def BreakerFullWrongFalsely : Prop := breakerFullRow.holds Try.pinned (OpenSpec.ofChange breakerFullWrong)

/-- 'spinnakerlaw7.BreakerShrinks': WHATEVER THE INPUT: true; the input reads as it did. -/
def breakerShrinksSpec : ChangeSpec := { name := "breakerShrinks", fn := fun _ => fun
  | [d1, d2] => { results := [.lit (.bool true)], args := [d1, d2] }
  | _ => none }
def breakerShrinksRow : OpenClaim := { program := "ytnlfocmmnjgmpaa", sum := "3bfcf5da31026325192b6867da1be0a90905eb38a298a4b478f440e8ae220589", func := "spinnaker/spinnakerlaw7.BreakerShrinks", spec := "breakerShrinks", apart := false }
def BreakerShrinksSaid : Prop := breakerShrinksRow.holds Try.pinned (OpenSpec.ofChange breakerShrinksSpec)

/-- ITS FALSE NEIGHBOUR: 'it returns false'. Refute it at one input. -/
def breakerShrinksWrong : ChangeSpec := { name := "breakerShrinks", fn := fun _ => fun
  | [d1, d2] => { results := [.lit (.bool false)], args := [d1, d2] }
  | _ => none }
def BreakerShrinksWrongFalsely : Prop := breakerShrinksRow.holds Try.pinned (OpenSpec.ofChange breakerShrinksWrong)

/-- 'spinnakerlaw8.PodWrong': WHATEVER THE INPUT: true; the input reads as it did. -/
def podWrongSpec : ChangeSpec := { name := "podWrong", fn := fun _ => fun
  | [d1, d2] => { results := [.lit (.bool true)], args := [d1, d2] }
  | _ => none }
def podWrongRow : OpenClaim := { program := "ytnlfocmmnjgmpaa", sum := "3bfcf5da31026325192b6867da1be0a90905eb38a298a4b478f440e8ae220589", func := "spinnaker/spinnakerlaw8.PodWrong", spec := "podWrong", apart := false }
def PodWrongSaid : Prop := podWrongRow.holds Try.pinned (OpenSpec.ofChange podWrongSpec)

/-- ITS FALSE NEIGHBOUR: 'it returns false'. Refute it at one input. -/
def podWrongWrong : ChangeSpec := { name := "podWrong", fn := fun _ => fun
  | [d1, d2] => { results := [.lit (.bool false)], args := [d1, d2] }
  | _ => none }
def PodWrongWrongFalsely : Prop := podWrongRow.holds Try.pinned (OpenSpec.ofChange podWrongWrong)

/-- 'spinnakerlaw8.PodPlays': WHATEVER THE INPUT: true; the input reads as it did. -/
def podPlaysSpec : ChangeSpec := { name := "podPlays", fn := fun _ => fun
  | [d1, d2, d3, d4, d5] => { results := [.lit (.bool true)], args := [d1, d2, d3, d4, d5] }
  | _ => none }
def podPlaysRow : OpenClaim := { program := "ytnlfocmmnjgmpaa", sum := "3bfcf5da31026325192b6867da1be0a90905eb38a298a4b478f440e8ae220589", func := "spinnaker/spinnakerlaw8.PodPlays", spec := "podPlays", apart := false }
def PodPlaysSaid : Prop := podPlaysRow.holds Try.pinned (OpenSpec.ofChange podPlaysSpec)

/-- ITS FALSE NEIGHBOUR: 'it returns false'. Refute it at one input. -/
def podPlaysWrong : ChangeSpec := { name := "podPlays", fn := fun _ => fun
  | [d1, d2, d3, d4, d5] => { results := [.lit (.bool false)], args := [d1, d2, d3, d4, d5] }
  | _ => none }
def PodPlaysWrongFalsely : Prop := podPlaysRow.holds Try.pinned (OpenSpec.ofChange podPlaysWrong)

/-- 'spinnakerlaw8.PodSteady': WHATEVER THE INPUT: true; the input reads as it did. -/
def podSteadySpec : ChangeSpec := { name := "podSteady", fn := fun _ => fun
  | [d1, d2, d3] => { results := [.lit (.bool true)], args := [d1, d2, d3] }
  | _ => none }
def podSteadyRow : OpenClaim := { program := "ytnlfocmmnjgmpaa", sum := "3bfcf5da31026325192b6867da1be0a90905eb38a298a4b478f440e8ae220589", func := "spinnaker/spinnakerlaw8.PodSteady", spec := "podSteady", apart := false }
def PodSteadySaid : Prop := podSteadyRow.holds Try.pinned (OpenSpec.ofChange podSteadySpec)

/-- ITS FALSE NEIGHBOUR: 'it returns false'. Refute it at one input. -/
def podSteadyWrong : ChangeSpec := { name := "podSteady", fn := fun _ => fun
  | [d1, d2, d3] => { results := [.lit (.bool false)], args := [d1, d2, d3] }
  | _ => none }
def PodSteadyWrongFalsely : Prop := podSteadyRow.holds Try.pinned (OpenSpec.ofChange podSteadyWrong)

/-- 'spinnakerlaw8.PodHalves': WHATEVER THE INPUT: true; the input reads as it did. -/
def podHalvesSpec : ChangeSpec := { name := "podHalves", fn := fun _ => fun
  | [d1, d2] => { results := [.lit (.bool true)], args := [d1, d2] }
  | _ => none }
def podHalvesRow : OpenClaim := { program := "ytnlfocmmnjgmpaa", sum := "3bfcf5da31026325192b6867da1be0a90905eb38a298a4b478f440e8ae220589", func := "spinnaker/spinnakerlaw8.PodHalves", spec := "podHalves", apart := false }
def PodHalvesSaid : Prop := podHalvesRow.holds Try.pinned (OpenSpec.ofChange podHalvesSpec)

/-- ITS FALSE NEIGHBOUR: 'it returns false'. Refute it at one input. -/
def podHalvesWrong : ChangeSpec := { name := "podHalves", fn := fun _ => fun
  | [d1, d2] => { results := [.lit (.bool false)], args := [d1, d2] }
  | _ => none }
def PodHalvesWrongFalsely : Prop := podHalvesRow.holds Try.pinned (OpenSpec.ofChange podHalvesWrong)

/-- 'spinnakerlaw8.PodParts': WHATEVER THE INPUT: true; the input reads as it did. -/
def podPartsSpec : ChangeSpec := { name := "podParts", fn := fun _ => fun
  | [d1, d2, d3] => { results := [.lit (.bool true)], args := [d1, d2, d3] }
  | _ => none }
def podPartsRow : OpenClaim := { program := "ytnlfocmmnjgmpaa", sum := "3bfcf5da31026325192b6867da1be0a90905eb38a298a4b478f440e8ae220589", func := "spinnaker/spinnakerlaw8.PodParts", spec := "podParts", apart := false }
def PodPartsSaid : Prop := podPartsRow.holds Try.pinned (OpenSpec.ofChange podPartsSpec)

/-- ITS FALSE NEIGHBOUR: 'it returns false'. Refute it at one input. -/
def podPartsWrong : ChangeSpec := { name := "podParts", fn := fun _ => fun
  | [d1, d2, d3] => { results := [.lit (.bool false)], args := [d1, d2, d3] }
  | _ => none }
def PodPartsWrongFalsely : Prop := podPartsRow.holds Try.pinned (OpenSpec.ofChange podPartsWrong)

/- THE SECOND FORM. 'bulk': how many values and letters a reading holds, each counted each time it is reached (what is shared counts as often as it is met; a slice's spare places count too). A statement '..UptoSaid' is the law's where the arguments, and the package variables that the reading takes, are together of bulk at most 1048576: NARROWER than '..Said'. Prove '..Said' where nothing that the law and all that it calls make is longer than what came in: it says more and counts as full. Else prove '..UptoSaid'. A law counts once. -/
mutual
def uptoBulk {H : Type} : DataW H → Nat
  | .lit (.string bytes) => bytes.length + 1
  | .lit _ => 1
  | .nil => 1
  | .ptr d => uptoBulk d + 1
  | .slice elems spare => uptoBulkAll elems + uptoBulkAll spare + 1
  | .agg parts => uptoBulkAll parts + 1
  | .iface _ d => uptoBulk d + 1
  | .map entries => uptoBulkEntries entries + 1
  | .held _ => 1
def uptoBulkAll {H : Type} : List (DataW H) → Nat
  | [] => 0
  | d :: r => uptoBulk d + uptoBulkAll r
def uptoBulkEntries {H : Type} : List (Lit × DataW H) → Nat
  | [] => 0
  | x :: r => uptoBulkEntry x + uptoBulkEntries r
def uptoBulkEntry {H : Type} : Lit × DataW H → Nat
  | (.string bytes, d) => bytes.length + uptoBulk d + 1
  | (_, d) => uptoBulk d + 1
 end
def uptoSmall : (H : Type) → List (DataW H) → Bool := fun _ ds => decide (uptoBulkAll ds ≤ 1048576)
def OpenSpec.upto (s : _root_.Go.ChangeSpec) : _root_.Go.OpenSpec := { _root_.Go.OpenSpec.ofChange s with cond := some uptoSmall }

/-- 'spinnakerlaw2.LoadMoves', WHERE WHAT IT READS IS OF BULK AT MOST 1048576: true; the input reads as it did. -/
def loadMovesUptoRow : OpenClaim := { program := "ytnlfocmmnjgmpaa", sum := "3bfcf5da31026325192b6867da1be0a90905eb38a298a4b478f440e8ae220589", func := "spinnaker/spinnakerlaw2.LoadMoves", spec := "loadMoves", apart := false, narrowed := true }
def LoadMovesUptoSaid : Prop := loadMovesUptoRow.holds Try.pinned (OpenSpec.upto loadMovesSpec)

/-- 'spinnakerlaw2.LoadOrders', WHERE WHAT IT READS IS OF BULK AT MOST 1048576: true; the input reads as it did. -/
def loadOrdersUptoRow : OpenClaim := { program := "ytnlfocmmnjgmpaa", sum := "3bfcf5da31026325192b6867da1be0a90905eb38a298a4b478f440e8ae220589", func := "spinnaker/spinnakerlaw2.LoadOrders", spec := "loadOrders", apart := false, narrowed := true }
def LoadOrdersUptoSaid : Prop := loadOrdersUptoRow.holds Try.pinned (OpenSpec.upto loadOrdersSpec)

/-- 'spinnakerlaw2.LoadSums', WHERE WHAT IT READS IS OF BULK AT MOST 1048576: true; the input reads as it did. -/
def loadSumsUptoRow : OpenClaim := { program := "ytnlfocmmnjgmpaa", sum := "3bfcf5da31026325192b6867da1be0a90905eb38a298a4b478f440e8ae220589", func := "spinnaker/spinnakerlaw2.LoadSums", spec := "loadSums", apart := false, narrowed := true }
def LoadSumsUptoSaid : Prop := loadSumsUptoRow.holds Try.pinned (OpenSpec.upto loadSumsSpec)

/-- 'spinnakerlaw19.PickNone', WHERE WHAT IT READS IS OF BULK AT MOST 1048576: true; the input reads as it did. -/
def pickNoneUptoRow : OpenClaim := { program := "ytnlfocmmnjgmpaa", sum := "3bfcf5da31026325192b6867da1be0a90905eb38a298a4b478f440e8ae220589", func := "spinnaker/spinnakerlaw19.PickNone", spec := "pickNone", apart := false, narrowed := true }
def PickNoneUptoSaid : Prop := pickNoneUptoRow.holds Try.pinned (OpenSpec.upto pickNoneSpec)

/-- 'spinnakerlaw19.PickEven', WHERE WHAT IT READS IS OF BULK AT MOST 1048576: true; the input reads as it did. -/
def pickEvenUptoRow : OpenClaim := { program := "ytnlfocmmnjgmpaa", sum := "3bfcf5da31026325192b6867da1be0a90905eb38a298a4b478f440e8ae220589", func := "spinnaker/spinnakerlaw19.PickEven", spec := "pickEven", apart := false, narrowed := true }
def PickEvenUptoSaid : Prop := pickEvenUptoRow.holds Try.pinned (OpenSpec.upto pickEvenSpec)

/-- 'spinnakerlaw19.PickLeast', WHERE WHAT IT READS IS OF BULK AT MOST 1048576: true; the input reads as it did. -/
def pickLeastUptoRow : OpenClaim := { program := "ytnlfocmmnjgmpaa", sum := "3bfcf5da31026325192b6867da1be0a90905eb38a298a4b478f440e8ae220589", func := "spinnaker/spinnakerlaw19.PickLeast", spec := "pickLeast", apart := false, narrowed := true }
def PickLeastUptoSaid : Prop := pickLeastUptoRow.holds Try.pinned (OpenSpec.upto pickLeastSpec)

/-- 'spinnakerlaw7.BreakerNone', WHERE WHAT IT READS IS OF BULK AT MOST 1048576: true; the input reads as it did. -/
def breakerNoneUptoRow : OpenClaim := { program := "ytnlfocmmnjgmpaa", sum := "3bfcf5da31026325192b6867da1be0a90905eb38a298a4b478f440e8ae220589", func := "spinnaker/spinnakerlaw7.BreakerNone", spec := "breakerNone", apart := false, narrowed := true }
def BreakerNoneUptoSaid : Prop := breakerNoneUptoRow.holds Try.pinned (OpenSpec.upto breakerNoneSpec)

/-- 'spinnakerlaw7.BreakerPlays', WHERE WHAT IT READS IS OF BULK AT MOST 1048576: true; the input reads as it did. -/
def breakerPlaysUptoRow : OpenClaim := { program := "ytnlfocmmnjgmpaa", sum := "3bfcf5da31026325192b6867da1be0a90905eb38a298a4b478f440e8ae220589", func := "spinnaker/spinnakerlaw7.BreakerPlays", spec := "breakerPlays", apart := false, narrowed := true }
def BreakerPlaysUptoSaid : Prop := breakerPlaysUptoRow.holds Try.pinned (OpenSpec.upto breakerPlaysSpec)

/-- 'spinnakerlaw7.BreakerHolds', WHERE WHAT IT READS IS OF BULK AT MOST 1048576: true; the input reads as it did. -/
def breakerHoldsUptoRow : OpenClaim := { program := "ytnlfocmmnjgmpaa", sum := "3bfcf5da31026325192b6867da1be0a90905eb38a298a4b478f440e8ae220589", func := "spinnaker/spinnakerlaw7.BreakerHolds", spec := "breakerHolds", apart := false, narrowed := true }
def BreakerHoldsUptoSaid : Prop := breakerHoldsUptoRow.holds Try.pinned (OpenSpec.upto breakerHoldsSpec)

/-- 'spinnakerlaw7.BreakerFull', WHERE WHAT IT READS IS OF BULK AT MOST 1048576: true; the input reads as it did. -/
def breakerFullUptoRow : OpenClaim := { program := "ytnlfocmmnjgmpaa", sum := "3bfcf5da31026325192b6867da1be0a90905eb38a298a4b478f440e8ae220589", func := "spinnaker/spinnakerlaw7.BreakerFull", spec := "breakerFull", apart := false, narrowed := true }
def BreakerFullUptoSaid : Prop := breakerFullUptoRow.holds Try.pinned (OpenSpec.upto breakerFullSpec)

/-- 'spinnakerlaw7.BreakerShrinks', WHERE WHAT IT READS IS OF BULK AT MOST 1048576: true; the input reads as it did. -/
def breakerShrinksUptoRow : OpenClaim := { program := "ytnlfocmmnjgmpaa", sum := "3bfcf5da31026325192b6867da1be0a90905eb38a298a4b478f440e8ae220589", func := "spinnaker/spinnakerlaw7.BreakerShrinks", spec := "breakerShrinks", apart := false, narrowed := true }
def BreakerShrinksUptoSaid : Prop := breakerShrinksUptoRow.holds Try.pinned (OpenSpec.upto breakerShrinksSpec)

/-- 'spinnakerlaw8.PodWrong', WHERE WHAT IT READS IS OF BULK AT MOST 1048576: true; the input reads as it did. -/
def podWrongUptoRow : OpenClaim := { program := "ytnlfocmmnjgmpaa", sum := "3bfcf5da31026325192b6867da1be0a90905eb38a298a4b478f440e8ae220589", func := "spinnaker/spinnakerlaw8.PodWrong", spec := "podWrong", apart := false, narrowed := true }
def PodWrongUptoSaid : Prop := podWrongUptoRow.holds Try.pinned (OpenSpec.upto podWrongSpec)

/-- 'spinnakerlaw8.PodPlays', WHERE WHAT IT READS IS OF BULK AT MOST 1048576: true; the input reads as it did. -/
def podPlaysUptoRow : OpenClaim := { program := "ytnlfocmmnjgmpaa", sum := "3bfcf5da31026325192b6867da1be0a90905eb38a298a4b478f440e8ae220589", func := "spinnaker/spinnakerlaw8.PodPlays", spec := "podPlays", apart := false, narrowed := true }
def PodPlaysUptoSaid : Prop := podPlaysUptoRow.holds Try.pinned (OpenSpec.upto podPlaysSpec)

/-- 'spinnakerlaw8.PodSteady', WHERE WHAT IT READS IS OF BULK AT MOST 1048576: true; the input reads as it did. -/
def podSteadyUptoRow : OpenClaim := { program := "ytnlfocmmnjgmpaa", sum := "3bfcf5da31026325192b6867da1be0a90905eb38a298a4b478f440e8ae220589", func := "spinnaker/spinnakerlaw8.PodSteady", spec := "podSteady", apart := false, narrowed := true }
def PodSteadyUptoSaid : Prop := podSteadyUptoRow.holds Try.pinned (OpenSpec.upto podSteadySpec)

/-- 'spinnakerlaw8.PodHalves', WHERE WHAT IT READS IS OF BULK AT MOST 1048576: true; the input reads as it did. -/
def podHalvesUptoRow : OpenClaim := { program := "ytnlfocmmnjgmpaa", sum := "3bfcf5da31026325192b6867da1be0a90905eb38a298a4b478f440e8ae220589", func := "spinnaker/spinnakerlaw8.PodHalves", spec := "podHalves", apart := false, narrowed := true }
def PodHalvesUptoSaid : Prop := podHalvesUptoRow.holds Try.pinned (OpenSpec.upto podHalvesSpec)

/-- 'spinnakerlaw8.PodParts', WHERE WHAT IT READS IS OF BULK AT MOST 1048576: true; the input reads as it did. -/
def podPartsUptoRow : OpenClaim := { program := "ytnlfocmmnjgmpaa", sum := "3bfcf5da31026325192b6867da1be0a90905eb38a298a4b478f440e8ae220589", func := "spinnaker/spinnakerlaw8.PodParts", spec := "podParts", apart := false, narrowed := true }
def PodPartsUptoSaid : Prop := podPartsUptoRow.holds Try.pinned (OpenSpec.upto podPartsSpec)

end Rows
end Go.Proofs.Ytnlfocmmnjgmpaa
