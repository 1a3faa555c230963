/-
  DERIVED. GIVEN WITH THE SEED: THE CARDS: each row of YthdmeanbdohehaaGreatDoorRows.lean that lists a variable, with what it lists TIED to the program's text (the seventh form; the later family's looks); each row that meets fmt, with fmt's text TOLD by the authors' own Lean function (tested against real Go, not proved from fmt's source: count such statements apart). THE CARD IS WHAT COUNTS. Prove the row's statement (the work); the ties are given (YthdmeanbdohehaaGreatDoorTie.lean); close each card by the builder's one call (the guide's Derived/Test/ToyasCard.lean, 'card_holds'). Laid BY PROGRAM, IN A SANDBOX (cutbox-door.mjs). By AI agents, Wed Nov 11 2026. No macro, syntax, notation, axiom, sorry.
-/
import Derived.Test.YthdmeanbdohehaaGreatDoorRows
import GoSem.ClaimSeven
namespace Go.Proofs.YthdmeanbdohehaaGreatDoor
namespace Rows

/-- THE TIED CARD OF 'laws.FnDark'. -/
def fnDarkCard : Claim7 := { stood := { row := fnDarkRow, standIns := [], harness := (true, "e5265695e2b70dff0e0e42cb43f3b3f010e5313250e76a82c4f2f9f21c0703b7"), looks := true }, kinds := [], alts := [], laidByText := true, laidKinds := [.data, .data, .data, .sentinel, .sentinel], laidTests := true, laidLooks := .later }
def FnDarkCardSaid : Prop := Claim7.holds Tryz.pinned (.plain (OpenSpec.ofChange fnDarkSpec)) fnDarkCard

/-- THE SECOND FORM's CARD OF 'laws.FnDark'. -/
def fnDarkUptoCard : Claim7 := { stood := { row := fnDarkUptoRow, standIns := [], harness := (true, "e5265695e2b70dff0e0e42cb43f3b3f010e5313250e76a82c4f2f9f21c0703b7"), looks := true }, kinds := [], alts := [], laidByText := true, laidKinds := [.data, .data, .data, .sentinel, .sentinel], laidTests := true, laidLooks := .later }
def FnDarkUptoCardSaid : Prop := Claim7.holds Tryz.pinned (.plain (OpenSpec.upto fnDarkSpec)) fnDarkUptoCard
end Rows
end Go.Proofs.YthdmeanbdohehaaGreatDoor
