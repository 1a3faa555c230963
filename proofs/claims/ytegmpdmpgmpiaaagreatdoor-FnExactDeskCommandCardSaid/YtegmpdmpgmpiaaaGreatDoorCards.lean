/-
  DERIVED. GIVEN WITH THE SEED: THE CARDS: each row of YtegmpdmpgmpiaaaGreatDoorRows.lean that lists a variable, with what it lists TIED to the program's text (the seventh form; the later family's looks); each row that meets fmt, with fmt's text TOLD by the authors' own Lean function (tested against real Go, not proved from fmt's source: count such statements apart). THE CARD IS WHAT COUNTS. Prove the row's statement (the work); the ties are given (YtegmpdmpgmpiaaaGreatDoorTie.lean); close each card by the builder's one call (the guide's Derived/Test/ToyasCard.lean, 'card_holds'). Laid BY PROGRAM, IN A SANDBOX (cutbox-door.mjs). By AI agents, Wed Nov 11 2026. No macro, syntax, notation, axiom, sorry.
-/
import Derived.Test.YtegmpdmpgmpiaaaGreatDoorRows
import GoSem.ClaimSeven
namespace Go.Proofs.YtegmpdmpgmpiaaaGreatDoor
namespace Rows

/-- THE TIED CARD OF 'laws.FnExactRunDesk'. -/
def fnExactRunDeskCard : Claim7 := { stood := { row := fnExactRunDeskRow, standIns := [], harness := (true, "973b580ce5c65ca494aa8476b30fa49a4a5ffe9952cf451b454cda01b1b40243"), looks := true }, kinds := [], alts := [], laidByText := true, laidKinds := [.data, .data, .data, .data, .sentinel, .sentinel, .pinned], laidTests := true, laidLooks := .later }
def FnExactRunDeskCardSaid : Prop := Claim7.holds Tryz.pinned (.plain (OpenSpec.ofChange fnExactRunDeskSpec)) fnExactRunDeskCard

/-- THE TIED CARD OF 'laws.FnExactDeskCommand'. -/
def fnExactDeskCommandCard : Claim7 := { stood := { row := fnExactDeskCommandRow, standIns := [], harness := (true, "973b580ce5c65ca494aa8476b30fa49a4a5ffe9952cf451b454cda01b1b40243"), looks := true }, kinds := [], alts := [], laidByText := true, laidKinds := [.data, .data, .data, .data, .sentinel, .sentinel, .pinned], laidTests := true, laidLooks := .later }
def FnExactDeskCommandCardSaid : Prop := Claim7.holds Tryz.pinned (.plain (OpenSpec.ofChange fnExactDeskCommandSpec)) fnExactDeskCommandCard

/-- THE SECOND FORM's CARD OF 'laws.FnExactRunDesk'. -/
def fnExactRunDeskUptoCard : Claim7 := { stood := { row := fnExactRunDeskUptoRow, standIns := [], harness := (true, "973b580ce5c65ca494aa8476b30fa49a4a5ffe9952cf451b454cda01b1b40243"), looks := true }, kinds := [], alts := [], laidByText := true, laidKinds := [.data, .data, .data, .data, .sentinel, .sentinel, .pinned], laidTests := true, laidLooks := .later }
def FnExactRunDeskUptoCardSaid : Prop := Claim7.holds Tryz.pinned (.plain (OpenSpec.upto fnExactRunDeskSpec)) fnExactRunDeskUptoCard

/-- THE SECOND FORM's CARD OF 'laws.FnExactDeskCommand'. -/
def fnExactDeskCommandUptoCard : Claim7 := { stood := { row := fnExactDeskCommandUptoRow, standIns := [], harness := (true, "973b580ce5c65ca494aa8476b30fa49a4a5ffe9952cf451b454cda01b1b40243"), looks := true }, kinds := [], alts := [], laidByText := true, laidKinds := [.data, .data, .data, .data, .sentinel, .sentinel, .pinned], laidTests := true, laidLooks := .later }
def FnExactDeskCommandUptoCardSaid : Prop := Claim7.holds Tryz.pinned (.plain (OpenSpec.upto fnExactDeskCommandSpec)) fnExactDeskCommandUptoCard
end Rows
end Go.Proofs.YtegmpdmpgmpiaaaGreatDoor
