/-
  DERIVED. GIVEN WITH THE SEED: THE CARDS: each row of YtlcabohpeopdcaaGreatDoorRows.lean that lists a variable, with what it lists TIED to the program's text (the seventh form; the later family's looks); each row that meets fmt, with fmt's text TOLD by the authors' own Lean function (tested against real Go, not proved from fmt's source: count such statements apart). THE CARD IS WHAT COUNTS. Prove the row's statement (the work); the ties are given (YtlcabohpeopdcaaGreatDoorTie.lean); close each card by the builder's one call (the guide's Derived/Test/ToyasCard.lean, 'card_holds'). Laid BY PROGRAM, IN A SANDBOX (cutbox-door.mjs). By AI agents, Wed Nov 11 2026. No macro, syntax, notation, axiom, sorry.
-/
import Derived.Test.YtlcabohpeopdcaaGreatDoorRows
import GoSem.ClaimSeven
namespace Go.Proofs.YtlcabohpeopdcaaGreatDoor
namespace Rows

/-- THE TIED CARD OF 'laws.FnLogs'. -/
def fnLogsCard : Claim7 := { stood := { row := fnLogsRow, standIns := [], harness := (true, "9df262636306601702c3298b27c04436913e04d8585f881479f4afbd986c9cc0"), looks := true }, kinds := [], alts := [], laidByText := true, laidKinds := [.data, .data, .data, .data, .sentinel, .sentinel, .pinned], laidTests := true, laidLooks := .later }
def FnLogsCardSaid : Prop := Claim7.holds Tryz.pinned (.plain (OpenSpec.ofChange fnLogsSpec)) fnLogsCard

/-- THE SECOND FORM's CARD OF 'laws.FnLogs'. -/
def fnLogsUptoCard : Claim7 := { stood := { row := fnLogsUptoRow, standIns := [], harness := (true, "9df262636306601702c3298b27c04436913e04d8585f881479f4afbd986c9cc0"), looks := true }, kinds := [], alts := [], laidByText := true, laidKinds := [.data, .data, .data, .data, .sentinel, .sentinel, .pinned], laidTests := true, laidLooks := .later }
def FnLogsUptoCardSaid : Prop := Claim7.holds Tryz.pinned (.plain (OpenSpec.upto fnLogsSpec)) fnLogsUptoCard
end Rows
end Go.Proofs.YtlcabohpeopdcaaGreatDoor
