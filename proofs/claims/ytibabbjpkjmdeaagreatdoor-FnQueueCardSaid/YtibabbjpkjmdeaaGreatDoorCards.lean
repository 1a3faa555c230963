/-
  DERIVED. GIVEN WITH THE SEED: THE CARDS: each row of YtibabbjpkjmdeaaGreatDoorRows.lean that lists a variable, with what it lists TIED to the program's text (the seventh form; the later family's looks); each row that meets fmt, with fmt's text TOLD by the authors' own Lean function (tested against real Go, not proved from fmt's source: count such statements apart). THE CARD IS WHAT COUNTS. Prove the row's statement (the work); the ties are given (YtibabbjpkjmdeaaGreatDoorTie.lean); close each card by the builder's one call (the guide's Derived/Test/ToyasCard.lean, 'card_holds'). Laid BY PROGRAM, IN A SANDBOX (cutbox-door.mjs). By AI agents, Wed Nov 11 2026. No macro, syntax, notation, axiom, sorry.
-/
import Derived.Test.YtibabbjpkjmdeaaGreatDoorRows
import GoSem.ClaimSeven
namespace Go.Proofs.YtibabbjpkjmdeaaGreatDoor
namespace Rows

/-- THE TIED CARD OF 'laws.FnVolumes'. -/
def fnVolumesCard : Claim7 := { stood := { row := fnVolumesRow, standIns := [], harness := (true, "2ff5cbdaa48e1fb18243755aedfc411d23919dfc0418912aee6ae6779941342d"), looks := true }, kinds := [], alts := [], laidByText := true, laidKinds := [.data, .data, .data], laidTests := true, laidLooks := .later }
def FnVolumesCardSaid : Prop := Claim7.holds Tryz.pinned (.plain (OpenSpec.ofChange fnVolumesSpec)) fnVolumesCard

/-- THE TIED CARD OF 'laws.FnQueue'. -/
def fnQueueCard : Claim7 := { stood := { row := fnQueueRow, standIns := [], harness := (true, "2ff5cbdaa48e1fb18243755aedfc411d23919dfc0418912aee6ae6779941342d"), looks := true }, kinds := [], alts := [], laidByText := true, laidKinds := [.data, .data, .data, .data, .sentinel, .sentinel, .pinned], laidTests := true, laidLooks := .later }
def FnQueueCardSaid : Prop := Claim7.holds Tryz.pinned (.plain (OpenSpec.ofChange fnQueueSpec)) fnQueueCard

/-- THE SECOND FORM's CARD OF 'laws.FnVolumes'. -/
def fnVolumesUptoCard : Claim7 := { stood := { row := fnVolumesUptoRow, standIns := [], harness := (true, "2ff5cbdaa48e1fb18243755aedfc411d23919dfc0418912aee6ae6779941342d"), looks := true }, kinds := [], alts := [], laidByText := true, laidKinds := [.data, .data, .data], laidTests := true, laidLooks := .later }
def FnVolumesUptoCardSaid : Prop := Claim7.holds Tryz.pinned (.plain (OpenSpec.upto fnVolumesSpec)) fnVolumesUptoCard

/-- THE SECOND FORM's CARD OF 'laws.FnQueue'. -/
def fnQueueUptoCard : Claim7 := { stood := { row := fnQueueUptoRow, standIns := [], harness := (true, "2ff5cbdaa48e1fb18243755aedfc411d23919dfc0418912aee6ae6779941342d"), looks := true }, kinds := [], alts := [], laidByText := true, laidKinds := [.data, .data, .data, .data, .sentinel, .sentinel, .pinned], laidTests := true, laidLooks := .later }
def FnQueueUptoCardSaid : Prop := Claim7.holds Tryz.pinned (.plain (OpenSpec.upto fnQueueSpec)) fnQueueUptoCard
end Rows
end Go.Proofs.YtibabbjpkjmdeaaGreatDoor
