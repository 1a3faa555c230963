/-
  DERIVED. GIVEN WITH THE SEED: THE CARDS: each row of YtgbibhhblimfiaaDoorRows.lean that lists a variable, with what it lists TIED to the program's text (the seventh form; the later family's looks); each row that meets fmt, with fmt's text TOLD by the authors' own Lean function (tested against real Go, not proved from fmt's source: count such statements apart). THE CARD IS WHAT COUNTS. Prove the row's statement (the work); the ties are given (YtgbibhhblimfiaaDoorTie.lean); close each card by the builder's one call (the guide's Derived/Test/ToyasCard.lean, 'card_holds'). Laid BY PROGRAM, IN A SANDBOX (cutbox-door.mjs). By AI agents, Wed Nov 11 2026. No macro, syntax, notation, axiom, sorry.
-/
import Derived.Test.YtgbibhhblimfiaaDoorRows
import GoSem.ClaimSeven
namespace Go.Proofs.YtgbibhhblimfiaaDoor
namespace Rows

/-- THE TIED CARD OF 'laws.FnExactFaultText'. -/
def fnExactFaultTextCard : Claim7 := { stood := { row := fnExactFaultTextRow, standIns := [], harness := (true, "4242531ddcea39255eb5f431de09013164144b3fa1c8b6f4e801462a8430cecd"), looks := false }, kinds := [], alts := [], laidByText := true, laidKinds := [.data, .data, .data], laidTests := true, laidLooks := .later }
def FnExactFaultTextCardSaid : Prop := Claim7.holds Tryd.pinned (.plain (OpenSpec.ofChange fnExactFaultTextSpec)) fnExactFaultTextCard

/-- THE TIED CARD OF 'laws.FnExactStampOf'. -/
def fnExactStampOfCard : Claim7 := { stood := { row := fnExactStampOfRow, standIns := [], harness := (true, "4242531ddcea39255eb5f431de09013164144b3fa1c8b6f4e801462a8430cecd"), looks := false }, kinds := [], alts := [], laidByText := true, laidKinds := [.data, .data, .data], laidTests := true, laidLooks := .later }
def FnExactStampOfCardSaid : Prop := Claim7.holds Tryd.pinned (.plain (OpenSpec.ofChange fnExactStampOfSpec)) fnExactStampOfCard

/-- THE SECOND FORM's CARD OF 'laws.FnExactFaultText'. -/
def fnExactFaultTextUptoCard : Claim7 := { stood := { row := fnExactFaultTextUptoRow, standIns := [], harness := (true, "4242531ddcea39255eb5f431de09013164144b3fa1c8b6f4e801462a8430cecd"), looks := false }, kinds := [], alts := [], laidByText := true, laidKinds := [.data, .data, .data], laidTests := true, laidLooks := .later }
def FnExactFaultTextUptoCardSaid : Prop := Claim7.holds Tryd.pinned (.plain (OpenSpec.upto fnExactFaultTextSpec)) fnExactFaultTextUptoCard

/-- THE SECOND FORM's CARD OF 'laws.FnExactStampOf'. -/
def fnExactStampOfUptoCard : Claim7 := { stood := { row := fnExactStampOfUptoRow, standIns := [], harness := (true, "4242531ddcea39255eb5f431de09013164144b3fa1c8b6f4e801462a8430cecd"), looks := false }, kinds := [], alts := [], laidByText := true, laidKinds := [.data, .data, .data], laidTests := true, laidLooks := .later }
def FnExactStampOfUptoCardSaid : Prop := Claim7.holds Tryd.pinned (.plain (OpenSpec.upto fnExactStampOfSpec)) fnExactStampOfUptoCard
end Rows
end Go.Proofs.YtgbibhhblimfiaaDoor
