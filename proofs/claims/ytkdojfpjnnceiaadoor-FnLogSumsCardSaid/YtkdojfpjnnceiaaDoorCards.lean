/-
  DERIVED. GIVEN WITH THE SEED: THE CARDS: each row of YtkdojfpjnnceiaaDoorRows.lean that lists a variable, with what it lists TIED to the program's text (the seventh form; the later family's looks); each row that meets fmt, with fmt's text TOLD by the authors' own Lean function (tested against real Go, not proved from fmt's source: count such statements apart). THE CARD IS WHAT COUNTS. Prove the row's statement (the work); the ties are given (YtkdojfpjnnceiaaDoorTie.lean); close each card by the builder's one call (the guide's Derived/Test/ToyasCard.lean, 'card_holds'). Laid BY PROGRAM, IN A SANDBOX (cutbox-door.mjs). By AI agents, Wed Nov 11 2026. No macro, syntax, notation, axiom, sorry.
-/
import Derived.Test.YtkdojfpjnnceiaaDoorRows
import GoSem.ClaimSeven
namespace Go.Proofs.YtkdojfpjnnceiaaDoor
namespace Rows

/-- THE TIED CARD OF 'laws.FnExactReadFault'. -/
def fnExactReadFaultCard : Claim7 := { stood := { row := fnExactReadFaultRow, standIns := [], harness := (true, "75230d1418898884d5017b7721f3a3d6a830931491d424c6644a8a5ea30df8c8"), looks := true }, kinds := [], alts := [], laidByText := true, laidKinds := [.data, .data, .data, .sentinel, .sentinel], laidTests := true, laidLooks := .later }
def FnExactReadFaultCardSaid : Prop := Claim7.holds Tryd.pinned (.plain (OpenSpec.ofChange fnExactReadFaultSpec)) fnExactReadFaultCard

/-- THE TIED CARD OF 'laws.FnLogSums'. -/
def fnLogSumsCard : Claim7 := { stood := { row := fnLogSumsRow, standIns := [], harness := (true, "75230d1418898884d5017b7721f3a3d6a830931491d424c6644a8a5ea30df8c8"), looks := true }, kinds := [], alts := [], laidByText := true, laidKinds := [.data, .data, .data, .data, .sentinel, .sentinel, .pinned], laidTests := true, laidLooks := .later }
def FnLogSumsCardSaid : Prop := Claim7.holds Tryd.pinned (.plain (OpenSpec.ofChange fnLogSumsSpec)) fnLogSumsCard

/-- THE TIED CARD OF 'laws.FnExactNamesIn'. -/
def fnExactNamesInCard : Claim7 := { stood := { row := fnExactNamesInRow, standIns := [], harness := (true, "75230d1418898884d5017b7721f3a3d6a830931491d424c6644a8a5ea30df8c8"), looks := true }, kinds := [], alts := [], laidByText := true, laidKinds := [.data, .data, .data, .data, .sentinel, .sentinel, .pinned], laidTests := true, laidLooks := .later }
def FnExactNamesInCardSaid : Prop := Claim7.holds Tryd.pinned (.plain (OpenSpec.ofChange fnExactNamesInSpec)) fnExactNamesInCard

/-- THE SECOND FORM's CARD OF 'laws.FnExactReadFault'. -/
def fnExactReadFaultUptoCard : Claim7 := { stood := { row := fnExactReadFaultUptoRow, standIns := [], harness := (true, "75230d1418898884d5017b7721f3a3d6a830931491d424c6644a8a5ea30df8c8"), looks := true }, kinds := [], alts := [], laidByText := true, laidKinds := [.data, .data, .data, .sentinel, .sentinel], laidTests := true, laidLooks := .later }
def FnExactReadFaultUptoCardSaid : Prop := Claim7.holds Tryd.pinned (.plain (OpenSpec.upto fnExactReadFaultSpec)) fnExactReadFaultUptoCard

/-- THE SECOND FORM's CARD OF 'laws.FnLogSums'. -/
def fnLogSumsUptoCard : Claim7 := { stood := { row := fnLogSumsUptoRow, standIns := [], harness := (true, "75230d1418898884d5017b7721f3a3d6a830931491d424c6644a8a5ea30df8c8"), looks := true }, kinds := [], alts := [], laidByText := true, laidKinds := [.data, .data, .data, .data, .sentinel, .sentinel, .pinned], laidTests := true, laidLooks := .later }
def FnLogSumsUptoCardSaid : Prop := Claim7.holds Tryd.pinned (.plain (OpenSpec.upto fnLogSumsSpec)) fnLogSumsUptoCard

/-- THE SECOND FORM's CARD OF 'laws.FnExactNamesIn'. -/
def fnExactNamesInUptoCard : Claim7 := { stood := { row := fnExactNamesInUptoRow, standIns := [], harness := (true, "75230d1418898884d5017b7721f3a3d6a830931491d424c6644a8a5ea30df8c8"), looks := true }, kinds := [], alts := [], laidByText := true, laidKinds := [.data, .data, .data, .data, .sentinel, .sentinel, .pinned], laidTests := true, laidLooks := .later }
def FnExactNamesInUptoCardSaid : Prop := Claim7.holds Tryd.pinned (.plain (OpenSpec.upto fnExactNamesInSpec)) fnExactNamesInUptoCard
end Rows
end Go.Proofs.YtkdojfpjnnceiaaDoor
