/-
  DERIVED. GIVEN WITH THE SEED: THE CARDS: each row of YtegelahoakkaaaaGreatDoorRows.lean that lists a variable, with what it lists TIED to the program's text (the seventh form; the later family's looks); each row that meets fmt, with fmt's text TOLD by the authors' own Lean function (tested against real Go, not proved from fmt's source: count such statements apart). THE CARD IS WHAT COUNTS. Prove the row's statement (the work); the ties are given (YtegelahoakkaaaaGreatDoorTie.lean); close each card by the builder's one call (the guide's Derived/Test/ToyasCard.lean, 'card_holds'). Laid BY PROGRAM, IN A SANDBOX (cutbox-door.mjs). By AI agents, Wed Nov 11 2026. No macro, syntax, notation, axiom, sorry.
-/
import Derived.Test.YtegelahoakkaaaaGreatDoorRows
import GoSem.ClaimSeven
namespace Go.Proofs.YtegelahoakkaaaaGreatDoor
namespace Rows

/-- THE TIED CARD OF 'laws.FnObserverLists'. -/
def fnObserverListsCard : Claim7 := { stood := { row := fnObserverListsRow, standIns := [], harness := (true, "04f6bde29aa6f60cf007cc71304acb8b04b4fc5f72b34c8ea640fac94cf7fd77"), looks := true }, kinds := [], alts := [], laidByText := true, laidKinds := [.data, .data, .data, .sentinel, .sentinel], laidTests := true, laidLooks := .later }
def FnObserverListsCardSaid : Prop := Claim7.holds Tryz.pinned (.plain (OpenSpec.ofChange fnObserverListsSpec)) fnObserverListsCard

/-- THE SECOND FORM's CARD OF 'laws.FnObserverLists'. -/
def fnObserverListsUptoCard : Claim7 := { stood := { row := fnObserverListsUptoRow, standIns := [], harness := (true, "04f6bde29aa6f60cf007cc71304acb8b04b4fc5f72b34c8ea640fac94cf7fd77"), looks := true }, kinds := [], alts := [], laidByText := true, laidKinds := [.data, .data, .data, .sentinel, .sentinel], laidTests := true, laidLooks := .later }
def FnObserverListsUptoCardSaid : Prop := Claim7.holds Tryz.pinned (.plain (OpenSpec.upto fnObserverListsSpec)) fnObserverListsUptoCard
end Rows
end Go.Proofs.YtegelahoakkaaaaGreatDoor
