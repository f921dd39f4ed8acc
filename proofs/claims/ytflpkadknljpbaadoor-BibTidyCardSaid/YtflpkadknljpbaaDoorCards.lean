/-
  DERIVED. GIVEN WITH THE SEED: THE CARDS: each row of YtflpkadknljpbaaDoorRows.lean that lists a variable, with what it lists TIED to the program's text (the seventh form; the later family's looks); each row that meets fmt, with fmt's text TOLD by the authors' own Lean function (tested against real Go, not proved from fmt's source: count such statements apart). THE CARD IS WHAT COUNTS. Prove the row's statement (the work); the ties are given (YtflpkadknljpbaaDoorTie.lean); close each card by the builder's one call (the guide's Derived/Test/ToyasCard.lean, 'card_holds'). Laid BY PROGRAM, IN A SANDBOX (cutbox-door.mjs). By AI agents, Wed Nov 11 2026. No macro, syntax, notation, axiom, sorry.
-/
import Derived.Test.YtflpkadknljpbaaDoorRows
import GoSem.ClaimSeven
namespace Go.Proofs.YtflpkadknljpbaaDoor
namespace Rows

/-- THE TIED CARD OF 'publisherlaw29.PersonParses'. -/
def personParsesCard : Claim7 := { stood := { row := personParsesRow, standIns := [], harness := (true, "f6e06c62bb1433001bcf7696028d9d9994d362d3328073c4da78ac3ab35431c1"), looks := false }, kinds := [], alts := [], laidByText := true, laidKinds := [.data, .pinned], laidTests := true, laidLooks := .later }
def PersonParsesCardSaid : Prop := Claim7.holds Tryd.pinned (.plain (OpenSpec.ofChange personParsesSpec)) personParsesCard

/-- THE TIED CARD OF 'publisherlaw29.PersonTexts'. -/
def personTextsCard : Claim7 := { stood := { row := personTextsRow, standIns := [], harness := (true, "f6e06c62bb1433001bcf7696028d9d9994d362d3328073c4da78ac3ab35431c1"), looks := false }, kinds := [], alts := [], laidByText := true, laidKinds := [.data, .pinned], laidTests := true, laidLooks := .later }
def PersonTextsCardSaid : Prop := Claim7.holds Tryd.pinned (.plain (OpenSpec.ofChange personTextsSpec)) personTextsCard

/-- THE TIED CARD OF 'publisherlaw29.PersonNames'. -/
def personNamesCard : Claim7 := { stood := { row := personNamesRow, standIns := [], harness := (true, "f6e06c62bb1433001bcf7696028d9d9994d362d3328073c4da78ac3ab35431c1"), looks := false }, kinds := [], alts := [], laidByText := true, laidKinds := [.data, .pinned], laidTests := true, laidLooks := .later }
def PersonNamesCardSaid : Prop := Claim7.holds Tryd.pinned (.plain (OpenSpec.ofChange personNamesSpec)) personNamesCard

/-- THE TIED CARD OF 'publisherlaw29.PersonLists'. -/
def personListsCard : Claim7 := { stood := { row := personListsRow, standIns := [], harness := (true, "f6e06c62bb1433001bcf7696028d9d9994d362d3328073c4da78ac3ab35431c1"), looks := false }, kinds := [], alts := [], laidByText := true, laidKinds := [.data, .pinned], laidTests := true, laidLooks := .later }
def PersonListsCardSaid : Prop := Claim7.holds Tryd.pinned (.plain (OpenSpec.ofChange personListsSpec)) personListsCard

/-- THE TIED CARD OF 'publisherlaw29.PersonReturns'. -/
def personReturnsCard : Claim7 := { stood := { row := personReturnsRow, standIns := [], harness := (true, "f6e06c62bb1433001bcf7696028d9d9994d362d3328073c4da78ac3ab35431c1"), looks := false }, kinds := [], alts := [], laidByText := true, laidKinds := [.data, .pinned], laidTests := true, laidLooks := .later }
def PersonReturnsCardSaid : Prop := Claim7.holds Tryd.pinned (.plain (OpenSpec.ofChange personReturnsSpec)) personReturnsCard

/-- THE TIED CARD OF 'publisherlaw29.PersonSpaces'. -/
def personSpacesCard : Claim7 := { stood := { row := personSpacesRow, standIns := [], harness := (true, "f6e06c62bb1433001bcf7696028d9d9994d362d3328073c4da78ac3ab35431c1"), looks := false }, kinds := [], alts := [], laidByText := true, laidKinds := [.data, .pinned], laidTests := true, laidLooks := .later }
def PersonSpacesCardSaid : Prop := Claim7.holds Tryd.pinned (.plain (OpenSpec.ofChange personSpacesSpec)) personSpacesCard

/-- THE TIED CARD OF 'publisherlaw29.PersonHolds'. -/
def personHoldsCard : Claim7 := { stood := { row := personHoldsRow, standIns := [], harness := (true, "f6e06c62bb1433001bcf7696028d9d9994d362d3328073c4da78ac3ab35431c1"), looks := false }, kinds := [], alts := [], laidByText := true, laidKinds := [.data, .pinned], laidTests := true, laidLooks := .later }
def PersonHoldsCardSaid : Prop := Claim7.holds Tryd.pinned (.plain (OpenSpec.ofChange personHoldsSpec)) personHoldsCard

/-- THE TIED CARD OF 'publisherlaw30.BibFind'. -/
def bibFindCard : Claim7 := { stood := { row := bibFindRow, standIns := [], harness := (true, "f6e06c62bb1433001bcf7696028d9d9994d362d3328073c4da78ac3ab35431c1"), looks := false }, kinds := [], alts := [], laidByText := true, laidKinds := [.data, .pinned], laidTests := true, laidLooks := .later }
def BibFindCardSaid : Prop := Claim7.holds Tryd.pinned (.plain (OpenSpec.ofChange bibFindSpec)) bibFindCard

/-- THE TIED CARD OF 'publisherlaw30.BibTidy'. -/
def bibTidyCard : Claim7 := { stood := { row := bibTidyRow, standIns := [], harness := (true, "f6e06c62bb1433001bcf7696028d9d9994d362d3328073c4da78ac3ab35431c1"), looks := false }, kinds := [], alts := [], laidByText := true, laidKinds := [.data, .pinned], laidTests := true, laidLooks := .later }
def BibTidyCardSaid : Prop := Claim7.holds Tryd.pinned (.plain (OpenSpec.ofChange bibTidySpec)) bibTidyCard

/-- THE SECOND FORM's CARD OF 'publisherlaw29.PersonParses'. -/
def personParsesUptoCard : Claim7 := { stood := { row := personParsesUptoRow, standIns := [], harness := (true, "f6e06c62bb1433001bcf7696028d9d9994d362d3328073c4da78ac3ab35431c1"), looks := false }, kinds := [], alts := [], laidByText := true, laidKinds := [.data, .pinned], laidTests := true, laidLooks := .later }
def PersonParsesUptoCardSaid : Prop := Claim7.holds Tryd.pinned (.plain (OpenSpec.upto personParsesSpec)) personParsesUptoCard

/-- THE SECOND FORM's CARD OF 'publisherlaw29.PersonTexts'. -/
def personTextsUptoCard : Claim7 := { stood := { row := personTextsUptoRow, standIns := [], harness := (true, "f6e06c62bb1433001bcf7696028d9d9994d362d3328073c4da78ac3ab35431c1"), looks := false }, kinds := [], alts := [], laidByText := true, laidKinds := [.data, .pinned], laidTests := true, laidLooks := .later }
def PersonTextsUptoCardSaid : Prop := Claim7.holds Tryd.pinned (.plain (OpenSpec.upto personTextsSpec)) personTextsUptoCard

/-- THE SECOND FORM's CARD OF 'publisherlaw29.PersonNames'. -/
def personNamesUptoCard : Claim7 := { stood := { row := personNamesUptoRow, standIns := [], harness := (true, "f6e06c62bb1433001bcf7696028d9d9994d362d3328073c4da78ac3ab35431c1"), looks := false }, kinds := [], alts := [], laidByText := true, laidKinds := [.data, .pinned], laidTests := true, laidLooks := .later }
def PersonNamesUptoCardSaid : Prop := Claim7.holds Tryd.pinned (.plain (OpenSpec.upto personNamesSpec)) personNamesUptoCard

/-- THE SECOND FORM's CARD OF 'publisherlaw29.PersonLists'. -/
def personListsUptoCard : Claim7 := { stood := { row := personListsUptoRow, standIns := [], harness := (true, "f6e06c62bb1433001bcf7696028d9d9994d362d3328073c4da78ac3ab35431c1"), looks := false }, kinds := [], alts := [], laidByText := true, laidKinds := [.data, .pinned], laidTests := true, laidLooks := .later }
def PersonListsUptoCardSaid : Prop := Claim7.holds Tryd.pinned (.plain (OpenSpec.upto personListsSpec)) personListsUptoCard

/-- THE SECOND FORM's CARD OF 'publisherlaw29.PersonReturns'. -/
def personReturnsUptoCard : Claim7 := { stood := { row := personReturnsUptoRow, standIns := [], harness := (true, "f6e06c62bb1433001bcf7696028d9d9994d362d3328073c4da78ac3ab35431c1"), looks := false }, kinds := [], alts := [], laidByText := true, laidKinds := [.data, .pinned], laidTests := true, laidLooks := .later }
def PersonReturnsUptoCardSaid : Prop := Claim7.holds Tryd.pinned (.plain (OpenSpec.upto personReturnsSpec)) personReturnsUptoCard

/-- THE SECOND FORM's CARD OF 'publisherlaw29.PersonSpaces'. -/
def personSpacesUptoCard : Claim7 := { stood := { row := personSpacesUptoRow, standIns := [], harness := (true, "f6e06c62bb1433001bcf7696028d9d9994d362d3328073c4da78ac3ab35431c1"), looks := false }, kinds := [], alts := [], laidByText := true, laidKinds := [.data, .pinned], laidTests := true, laidLooks := .later }
def PersonSpacesUptoCardSaid : Prop := Claim7.holds Tryd.pinned (.plain (OpenSpec.upto personSpacesSpec)) personSpacesUptoCard

/-- THE SECOND FORM's CARD OF 'publisherlaw29.PersonHolds'. -/
def personHoldsUptoCard : Claim7 := { stood := { row := personHoldsUptoRow, standIns := [], harness := (true, "f6e06c62bb1433001bcf7696028d9d9994d362d3328073c4da78ac3ab35431c1"), looks := false }, kinds := [], alts := [], laidByText := true, laidKinds := [.data, .pinned], laidTests := true, laidLooks := .later }
def PersonHoldsUptoCardSaid : Prop := Claim7.holds Tryd.pinned (.plain (OpenSpec.upto personHoldsSpec)) personHoldsUptoCard

/-- THE SECOND FORM's CARD OF 'publisherlaw30.BibFind'. -/
def bibFindUptoCard : Claim7 := { stood := { row := bibFindUptoRow, standIns := [], harness := (true, "f6e06c62bb1433001bcf7696028d9d9994d362d3328073c4da78ac3ab35431c1"), looks := false }, kinds := [], alts := [], laidByText := true, laidKinds := [.data, .pinned], laidTests := true, laidLooks := .later }
def BibFindUptoCardSaid : Prop := Claim7.holds Tryd.pinned (.plain (OpenSpec.upto bibFindSpec)) bibFindUptoCard

/-- THE SECOND FORM's CARD OF 'publisherlaw30.BibTidy'. -/
def bibTidyUptoCard : Claim7 := { stood := { row := bibTidyUptoRow, standIns := [], harness := (true, "f6e06c62bb1433001bcf7696028d9d9994d362d3328073c4da78ac3ab35431c1"), looks := false }, kinds := [], alts := [], laidByText := true, laidKinds := [.data, .pinned], laidTests := true, laidLooks := .later }
def BibTidyUptoCardSaid : Prop := Claim7.holds Tryd.pinned (.plain (OpenSpec.upto bibTidySpec)) bibTidyUptoCard
end Rows
end Go.Proofs.YtflpkadknljpbaaDoor
