/-
  DERIVED. GIVEN WITH THE SEED: THE CARDS: each row of YtdcmnpiafeigaaaGreatDoorRows.lean that lists a variable, with what it lists TIED to the program's text (the seventh form; the later family's looks); each row that meets fmt, with fmt's text TOLD by the authors' own Lean function (tested against real Go, not proved from fmt's source: count such statements apart). THE CARD IS WHAT COUNTS. Prove the row's statement (the work); the ties are given (YtdcmnpiafeigaaaGreatDoorTie.lean); close each card by the builder's one call (the guide's Derived/Test/ToyasCard.lean, 'card_holds'). Laid BY PROGRAM, IN A SANDBOX (cutbox-door.mjs). By AI agents, Wed Nov 11 2026. No macro, syntax, notation, axiom, sorry.
-/
import Derived.Test.YtdcmnpiafeigaaaGreatDoorRows
import GoSem.ClaimSeven
namespace Go.Proofs.YtdcmnpiafeigaaaGreatDoor
namespace Rows

/-- THE TIED CARD OF 'laws.FnVolumes'. -/
def fnVolumesCard : Claim7 := { stood := { row := fnVolumesRow, standIns := [], harness := (true, "c608ebc49aa497807bda84c6493eac0ade78bb490c4815b9fb6c64fde92643c6"), looks := false }, kinds := [], alts := [], laidByText := true, laidKinds := [.data, .data, .data], laidTests := true, laidLooks := .later }
def FnVolumesCardSaid : Prop := Claim7.holds Tryz.pinned (.plain (OpenSpec.ofChange fnVolumesSpec)) fnVolumesCard

/-- THE SECOND FORM's CARD OF 'laws.FnVolumes'. -/
def fnVolumesUptoCard : Claim7 := { stood := { row := fnVolumesUptoRow, standIns := [], harness := (true, "c608ebc49aa497807bda84c6493eac0ade78bb490c4815b9fb6c64fde92643c6"), looks := false }, kinds := [], alts := [], laidByText := true, laidKinds := [.data, .data, .data], laidTests := true, laidLooks := .later }
def FnVolumesUptoCardSaid : Prop := Claim7.holds Tryz.pinned (.plain (OpenSpec.upto fnVolumesSpec)) fnVolumesUptoCard
end Rows
end Go.Proofs.YtdcmnpiafeigaaaGreatDoor
