/-
  DERIVED. GIVEN WITH THE SEED: THE CARDS: each row of YteflhlbgbgamnaaGreatDoorRows.lean that lists a variable, with what it lists TIED to the program's text (the seventh form; the later family's looks); each row that meets fmt, with fmt's text TOLD by the authors' own Lean function (tested against real Go, not proved from fmt's source: count such statements apart). THE CARD IS WHAT COUNTS. Prove the row's statement (the work); the ties are given (YteflhlbgbgamnaaGreatDoorTie.lean); close each card by the builder's one call (the guide's Derived/Test/ToyasCard.lean, 'card_holds'). Laid BY PROGRAM, IN A SANDBOX (cutbox-door.mjs). By AI agents, Wed Nov 11 2026. No macro, syntax, notation, axiom, sorry.
-/
import Derived.Test.YteflhlbgbgamnaaGreatDoorRows
import GoSem.ClaimSeven
namespace Go.Proofs.YteflhlbgbgamnaaGreatDoor
namespace Rows

/-- THE TIED CARD OF 'publisherlaw30.BibParse'. -/
def bibParseCard : Claim7 := { stood := { row := bibParseRow, standIns := [], harness := (true, "d4d2f7635488bf006710c7cc83a1ca99c283534901851f5881a9fa26b9d00025"), looks := false }, kinds := [], alts := [], laidByText := true, laidKinds := [.data, .pinned], laidTests := true, laidLooks := .later }
def BibParseCardSaid : Prop := Claim7.holds Tryz.pinned (.plain (OpenSpec.ofChange bibParseSpec)) bibParseCard

/-- THE TIED CARD OF 'publisherlaw30.BibPersons'. -/
def bibPersonsCard : Claim7 := { stood := { row := bibPersonsRow, standIns := [], harness := (true, "d4d2f7635488bf006710c7cc83a1ca99c283534901851f5881a9fa26b9d00025"), looks := false }, kinds := [], alts := [], laidByText := true, laidKinds := [.data, .pinned], laidTests := true, laidLooks := .later }
def BibPersonsCardSaid : Prop := Claim7.holds Tryz.pinned (.plain (OpenSpec.ofChange bibPersonsSpec)) bibPersonsCard

/-- THE TIED CARD OF 'publisherlaw25.CollateChecks'. -/
def collateChecksCard : Claim7 := { stood := { row := collateChecksRow, standIns := [], harness := (true, "d4d2f7635488bf006710c7cc83a1ca99c283534901851f5881a9fa26b9d00025"), looks := false }, kinds := [], alts := [], laidByText := true, laidKinds := [.data, .pinned], laidTests := true, laidLooks := .later }
def CollateChecksCardSaid : Prop := Claim7.holds Tryz.pinned (.plain (OpenSpec.ofChange collateChecksSpec)) collateChecksCard

/-- THE TIED CARD OF 'publisherlaw25.CollateParses'. -/
def collateParsesCard : Claim7 := { stood := { row := collateParsesRow, standIns := [], harness := (true, "d4d2f7635488bf006710c7cc83a1ca99c283534901851f5881a9fa26b9d00025"), looks := false }, kinds := [], alts := [], laidByText := true, laidKinds := [.data, .pinned], laidTests := true, laidLooks := .later }
def CollateParsesCardSaid : Prop := Claim7.holds Tryz.pinned (.plain (OpenSpec.ofChange collateParsesSpec)) collateParsesCard

/-- THE TIED CARD OF 'publisherlaw25.CollateBack'. -/
def collateBackCard : Claim7 := { stood := { row := collateBackRow, standIns := [], harness := (true, "d4d2f7635488bf006710c7cc83a1ca99c283534901851f5881a9fa26b9d00025"), looks := false }, kinds := [], alts := [], laidByText := true, laidKinds := [.data, .pinned], laidTests := true, laidLooks := .later }
def CollateBackCardSaid : Prop := Claim7.holds Tryz.pinned (.plain (OpenSpec.ofChange collateBackSpec)) collateBackCard

/-- THE TIED CARD OF 'publisherlaw25.CollateCompares'. -/
def collateComparesCard : Claim7 := { stood := { row := collateComparesRow, standIns := [], harness := (true, "d4d2f7635488bf006710c7cc83a1ca99c283534901851f5881a9fa26b9d00025"), looks := false }, kinds := [], alts := [], laidByText := true, laidKinds := [.data, .pinned], laidTests := true, laidLooks := .later }
def CollateComparesCardSaid : Prop := Claim7.holds Tryz.pinned (.plain (OpenSpec.ofChange collateComparesSpec)) collateComparesCard

/-- THE TIED CARD OF 'publisherlaw25.CollateSorts'. -/
def collateSortsCard : Claim7 := { stood := { row := collateSortsRow, standIns := [], harness := (true, "d4d2f7635488bf006710c7cc83a1ca99c283534901851f5881a9fa26b9d00025"), looks := false }, kinds := [], alts := [], laidByText := true, laidKinds := [.data, .pinned], laidTests := true, laidLooks := .later }
def CollateSortsCardSaid : Prop := Claim7.holds Tryz.pinned (.plain (OpenSpec.ofChange collateSortsSpec)) collateSortsCard

/-- THE TIED CARD OF 'publisherlaw25.CollateInitials'. -/
def collateInitialsCard : Claim7 := { stood := { row := collateInitialsRow, standIns := [], harness := (true, "d4d2f7635488bf006710c7cc83a1ca99c283534901851f5881a9fa26b9d00025"), looks := false }, kinds := [], alts := [], laidByText := true, laidKinds := [.data, .pinned], laidTests := true, laidLooks := .later }
def CollateInitialsCardSaid : Prop := Claim7.holds Tryz.pinned (.plain (OpenSpec.ofChange collateInitialsSpec)) collateInitialsCard

/-- THE SECOND FORM's CARD OF 'publisherlaw30.BibParse'. -/
def bibParseUptoCard : Claim7 := { stood := { row := bibParseUptoRow, standIns := [], harness := (true, "d4d2f7635488bf006710c7cc83a1ca99c283534901851f5881a9fa26b9d00025"), looks := false }, kinds := [], alts := [], laidByText := true, laidKinds := [.data, .pinned], laidTests := true, laidLooks := .later }
def BibParseUptoCardSaid : Prop := Claim7.holds Tryz.pinned (.plain (OpenSpec.upto bibParseSpec)) bibParseUptoCard

/-- THE SECOND FORM's CARD OF 'publisherlaw30.BibPersons'. -/
def bibPersonsUptoCard : Claim7 := { stood := { row := bibPersonsUptoRow, standIns := [], harness := (true, "d4d2f7635488bf006710c7cc83a1ca99c283534901851f5881a9fa26b9d00025"), looks := false }, kinds := [], alts := [], laidByText := true, laidKinds := [.data, .pinned], laidTests := true, laidLooks := .later }
def BibPersonsUptoCardSaid : Prop := Claim7.holds Tryz.pinned (.plain (OpenSpec.upto bibPersonsSpec)) bibPersonsUptoCard

/-- THE SECOND FORM's CARD OF 'publisherlaw25.CollateChecks'. -/
def collateChecksUptoCard : Claim7 := { stood := { row := collateChecksUptoRow, standIns := [], harness := (true, "d4d2f7635488bf006710c7cc83a1ca99c283534901851f5881a9fa26b9d00025"), looks := false }, kinds := [], alts := [], laidByText := true, laidKinds := [.data, .pinned], laidTests := true, laidLooks := .later }
def CollateChecksUptoCardSaid : Prop := Claim7.holds Tryz.pinned (.plain (OpenSpec.upto collateChecksSpec)) collateChecksUptoCard

/-- THE SECOND FORM's CARD OF 'publisherlaw25.CollateParses'. -/
def collateParsesUptoCard : Claim7 := { stood := { row := collateParsesUptoRow, standIns := [], harness := (true, "d4d2f7635488bf006710c7cc83a1ca99c283534901851f5881a9fa26b9d00025"), looks := false }, kinds := [], alts := [], laidByText := true, laidKinds := [.data, .pinned], laidTests := true, laidLooks := .later }
def CollateParsesUptoCardSaid : Prop := Claim7.holds Tryz.pinned (.plain (OpenSpec.upto collateParsesSpec)) collateParsesUptoCard

/-- THE SECOND FORM's CARD OF 'publisherlaw25.CollateBack'. -/
def collateBackUptoCard : Claim7 := { stood := { row := collateBackUptoRow, standIns := [], harness := (true, "d4d2f7635488bf006710c7cc83a1ca99c283534901851f5881a9fa26b9d00025"), looks := false }, kinds := [], alts := [], laidByText := true, laidKinds := [.data, .pinned], laidTests := true, laidLooks := .later }
def CollateBackUptoCardSaid : Prop := Claim7.holds Tryz.pinned (.plain (OpenSpec.upto collateBackSpec)) collateBackUptoCard

/-- THE SECOND FORM's CARD OF 'publisherlaw25.CollateCompares'. -/
def collateComparesUptoCard : Claim7 := { stood := { row := collateComparesUptoRow, standIns := [], harness := (true, "d4d2f7635488bf006710c7cc83a1ca99c283534901851f5881a9fa26b9d00025"), looks := false }, kinds := [], alts := [], laidByText := true, laidKinds := [.data, .pinned], laidTests := true, laidLooks := .later }
def CollateComparesUptoCardSaid : Prop := Claim7.holds Tryz.pinned (.plain (OpenSpec.upto collateComparesSpec)) collateComparesUptoCard

/-- THE SECOND FORM's CARD OF 'publisherlaw25.CollateSorts'. -/
def collateSortsUptoCard : Claim7 := { stood := { row := collateSortsUptoRow, standIns := [], harness := (true, "d4d2f7635488bf006710c7cc83a1ca99c283534901851f5881a9fa26b9d00025"), looks := false }, kinds := [], alts := [], laidByText := true, laidKinds := [.data, .pinned], laidTests := true, laidLooks := .later }
def CollateSortsUptoCardSaid : Prop := Claim7.holds Tryz.pinned (.plain (OpenSpec.upto collateSortsSpec)) collateSortsUptoCard

/-- THE SECOND FORM's CARD OF 'publisherlaw25.CollateInitials'. -/
def collateInitialsUptoCard : Claim7 := { stood := { row := collateInitialsUptoRow, standIns := [], harness := (true, "d4d2f7635488bf006710c7cc83a1ca99c283534901851f5881a9fa26b9d00025"), looks := false }, kinds := [], alts := [], laidByText := true, laidKinds := [.data, .pinned], laidTests := true, laidLooks := .later }
def CollateInitialsUptoCardSaid : Prop := Claim7.holds Tryz.pinned (.plain (OpenSpec.upto collateInitialsSpec)) collateInitialsUptoCard
end Rows
end Go.Proofs.YteflhlbgbgamnaaGreatDoor
