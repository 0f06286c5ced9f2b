/-
  DERIVED. GIVEN WITH THE SEED: THE CARDS: each row of YtdgphoemjeakaaaGreatDoorRows.lean that lists a variable, with what it lists TIED to the program's text (the seventh form; the later family's looks); each row that meets fmt, with fmt's text TOLD by the authors' own Lean function (tested against real Go, not proved from fmt's source: count such statements apart). THE CARD IS WHAT COUNTS. Prove the row's statement (the work); the ties are given (YtdgphoemjeakaaaGreatDoorTie.lean); close each card by the builder's one call (the guide's Derived/Test/ToyasCard.lean, 'card_holds'). Laid BY PROGRAM, IN A SANDBOX (cutbox-door.mjs). By AI agents, Wed Nov 11 2026. No macro, syntax, notation, axiom, sorry.
-/
import Derived.Test.YtdgphoemjeakaaaGreatDoorRows
import GoSem.ClaimSeven
namespace Go.Proofs.YtdgphoemjeakaaaGreatDoor
namespace Rows

/-- THE TIED CARD OF 'spinnakertop.TopAlways'. -/
def topAlwaysCard : Claim7 := { stood := { row := topAlwaysRow, standIns := [], harness := (true, "39ea56d69a7480dc9232249602feb28c208a1f0f7aec79cba53c1433c151022b"), looks := true }, kinds := [], alts := [], laidByText := true, laidKinds := [.data, .data, .data, .data, .sentinel, .sentinel, .pinned], laidTests := true, laidLooks := .later }
def TopAlwaysCardSaid : Prop := Claim7.holds Tryz.pinned (.plain (OpenSpec.ofChange topAlwaysSpec)) topAlwaysCard

/-- THE TIED CARD OF 'spinnakertop.TopSteady'. -/
def topSteadyCard : Claim7 := { stood := { row := topSteadyRow, standIns := [], harness := (true, "39ea56d69a7480dc9232249602feb28c208a1f0f7aec79cba53c1433c151022b"), looks := true }, kinds := [], alts := [], laidByText := true, laidKinds := [.data, .data, .data, .data, .sentinel, .sentinel, .pinned], laidTests := true, laidLooks := .later }
def TopSteadyCardSaid : Prop := Claim7.holds Tryz.pinned (.plain (OpenSpec.ofChange topSteadySpec)) topSteadyCard

/-- THE TIED CARD OF 'spinnakertop.TopQueue'. -/
def topQueueCard : Claim7 := { stood := { row := topQueueRow, standIns := [], harness := (true, "39ea56d69a7480dc9232249602feb28c208a1f0f7aec79cba53c1433c151022b"), looks := true }, kinds := [], alts := [], laidByText := true, laidKinds := [.data, .data, .data, .data, .sentinel, .sentinel, .pinned], laidTests := true, laidLooks := .later }
def TopQueueCardSaid : Prop := Claim7.holds Tryz.pinned (.plain (OpenSpec.ofChange topQueueSpec)) topQueueCard

/-- THE TIED CARD OF 'spinnakertop.TopDrains'. -/
def topDrainsCard : Claim7 := { stood := { row := topDrainsRow, standIns := [], harness := (true, "39ea56d69a7480dc9232249602feb28c208a1f0f7aec79cba53c1433c151022b"), looks := true }, kinds := [], alts := [], laidByText := true, laidKinds := [.data, .data, .data, .data, .sentinel, .sentinel, .pinned], laidTests := true, laidLooks := .later }
def TopDrainsCardSaid : Prop := Claim7.holds Tryz.pinned (.plain (OpenSpec.ofChange topDrainsSpec)) topDrainsCard

/-- THE SECOND FORM's CARD OF 'spinnakertop.TopAlways'. -/
def topAlwaysUptoCard : Claim7 := { stood := { row := topAlwaysUptoRow, standIns := [], harness := (true, "39ea56d69a7480dc9232249602feb28c208a1f0f7aec79cba53c1433c151022b"), looks := true }, kinds := [], alts := [], laidByText := true, laidKinds := [.data, .data, .data, .data, .sentinel, .sentinel, .pinned], laidTests := true, laidLooks := .later }
def TopAlwaysUptoCardSaid : Prop := Claim7.holds Tryz.pinned (.plain (OpenSpec.upto topAlwaysSpec)) topAlwaysUptoCard

/-- THE SECOND FORM's CARD OF 'spinnakertop.TopSteady'. -/
def topSteadyUptoCard : Claim7 := { stood := { row := topSteadyUptoRow, standIns := [], harness := (true, "39ea56d69a7480dc9232249602feb28c208a1f0f7aec79cba53c1433c151022b"), looks := true }, kinds := [], alts := [], laidByText := true, laidKinds := [.data, .data, .data, .data, .sentinel, .sentinel, .pinned], laidTests := true, laidLooks := .later }
def TopSteadyUptoCardSaid : Prop := Claim7.holds Tryz.pinned (.plain (OpenSpec.upto topSteadySpec)) topSteadyUptoCard

/-- THE SECOND FORM's CARD OF 'spinnakertop.TopQueue'. -/
def topQueueUptoCard : Claim7 := { stood := { row := topQueueUptoRow, standIns := [], harness := (true, "39ea56d69a7480dc9232249602feb28c208a1f0f7aec79cba53c1433c151022b"), looks := true }, kinds := [], alts := [], laidByText := true, laidKinds := [.data, .data, .data, .data, .sentinel, .sentinel, .pinned], laidTests := true, laidLooks := .later }
def TopQueueUptoCardSaid : Prop := Claim7.holds Tryz.pinned (.plain (OpenSpec.upto topQueueSpec)) topQueueUptoCard

/-- THE SECOND FORM's CARD OF 'spinnakertop.TopDrains'. -/
def topDrainsUptoCard : Claim7 := { stood := { row := topDrainsUptoRow, standIns := [], harness := (true, "39ea56d69a7480dc9232249602feb28c208a1f0f7aec79cba53c1433c151022b"), looks := true }, kinds := [], alts := [], laidByText := true, laidKinds := [.data, .data, .data, .data, .sentinel, .sentinel, .pinned], laidTests := true, laidLooks := .later }
def TopDrainsUptoCardSaid : Prop := Claim7.holds Tryz.pinned (.plain (OpenSpec.upto topDrainsSpec)) topDrainsUptoCard
end Rows
end Go.Proofs.YtdgphoemjeakaaaGreatDoor
