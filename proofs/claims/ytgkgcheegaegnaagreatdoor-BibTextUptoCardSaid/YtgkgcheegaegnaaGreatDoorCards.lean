/-
  DERIVED. GIVEN WITH THE SEED: THE CARDS: each row of YtgkgcheegaegnaaGreatDoorRows.lean that lists a variable, with what it lists TIED to the program's text (the seventh form; the later family's looks); each row that meets fmt, with fmt's text TOLD by the authors' own Lean function (tested against real Go, not proved from fmt's source: count such statements apart). THE CARD IS WHAT COUNTS. Prove the row's statement (the work); the ties are given (YtgkgcheegaegnaaGreatDoorTie.lean); close each card by the builder's one call (the guide's Derived/Test/ToyasCard.lean, 'card_holds'). Laid BY PROGRAM, IN A SANDBOX (cutbox-door.mjs). By AI agents, Wed Nov 11 2026. No macro, syntax, notation, axiom, sorry.
-/
import Derived.Test.YtgkgcheegaegnaaGreatDoorRows
import GoSem.ClaimSeven
namespace Go.Proofs.YtgkgcheegaegnaaGreatDoor
namespace Rows

/-- THE TIED CARD OF 'publisherlaw30.BibParse'. -/
def bibParseCard : Claim7 := { stood := { row := bibParseRow, standIns := [], harness := (true, "b7fe699e3090b13ff00506fbce67206e96ba28f4ba155855992e1a5fc85a5c52"), looks := false }, kinds := [], alts := [], laidByText := true, laidKinds := [.data, .pinned], laidTests := true, laidLooks := .later }
def BibParseCardSaid : Prop := Claim7.holds Tryz.pinned (.plain (OpenSpec.ofChange bibParseSpec)) bibParseCard

/-- THE TIED CARD OF 'publisherlaw30.BibText'. -/
def bibTextCard : Claim7 := { stood := { row := bibTextRow, standIns := [], harness := (true, "b7fe699e3090b13ff00506fbce67206e96ba28f4ba155855992e1a5fc85a5c52"), looks := false }, kinds := [], alts := [], laidByText := true, laidKinds := [.data, .pinned], laidTests := true, laidLooks := .later }
def BibTextCardSaid : Prop := Claim7.holds Tryz.pinned (.plain (OpenSpec.ofChange bibTextSpec)) bibTextCard

/-- THE TIED CARD OF 'publisherlaw30.BibPersons'. -/
def bibPersonsCard : Claim7 := { stood := { row := bibPersonsRow, standIns := [], harness := (true, "b7fe699e3090b13ff00506fbce67206e96ba28f4ba155855992e1a5fc85a5c52"), looks := false }, kinds := [], alts := [], laidByText := true, laidKinds := [.data, .pinned], laidTests := true, laidLooks := .later }
def BibPersonsCardSaid : Prop := Claim7.holds Tryz.pinned (.plain (OpenSpec.ofChange bibPersonsSpec)) bibPersonsCard

/-- THE SECOND FORM's CARD OF 'publisherlaw30.BibParse'. -/
def bibParseUptoCard : Claim7 := { stood := { row := bibParseUptoRow, standIns := [], harness := (true, "b7fe699e3090b13ff00506fbce67206e96ba28f4ba155855992e1a5fc85a5c52"), looks := false }, kinds := [], alts := [], laidByText := true, laidKinds := [.data, .pinned], laidTests := true, laidLooks := .later }
def BibParseUptoCardSaid : Prop := Claim7.holds Tryz.pinned (.plain (OpenSpec.upto bibParseSpec)) bibParseUptoCard

/-- THE SECOND FORM's CARD OF 'publisherlaw30.BibText'. -/
def bibTextUptoCard : Claim7 := { stood := { row := bibTextUptoRow, standIns := [], harness := (true, "b7fe699e3090b13ff00506fbce67206e96ba28f4ba155855992e1a5fc85a5c52"), looks := false }, kinds := [], alts := [], laidByText := true, laidKinds := [.data, .pinned], laidTests := true, laidLooks := .later }
def BibTextUptoCardSaid : Prop := Claim7.holds Tryz.pinned (.plain (OpenSpec.upto bibTextSpec)) bibTextUptoCard

/-- THE SECOND FORM's CARD OF 'publisherlaw30.BibPersons'. -/
def bibPersonsUptoCard : Claim7 := { stood := { row := bibPersonsUptoRow, standIns := [], harness := (true, "b7fe699e3090b13ff00506fbce67206e96ba28f4ba155855992e1a5fc85a5c52"), looks := false }, kinds := [], alts := [], laidByText := true, laidKinds := [.data, .pinned], laidTests := true, laidLooks := .later }
def BibPersonsUptoCardSaid : Prop := Claim7.holds Tryz.pinned (.plain (OpenSpec.upto bibPersonsSpec)) bibPersonsUptoCard
end Rows
end Go.Proofs.YtgkgcheegaegnaaGreatDoor
