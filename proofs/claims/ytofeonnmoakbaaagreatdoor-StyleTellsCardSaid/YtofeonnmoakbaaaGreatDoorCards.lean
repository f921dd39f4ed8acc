/-
  DERIVED. GIVEN WITH THE SEED: THE CARDS: each row of YtofeonnmoakbaaaGreatDoorRows.lean that lists a variable, with what it lists TIED to the program's text (the seventh form; the later family's looks); each row that meets fmt, with fmt's text TOLD by the authors' own Lean function (tested against real Go, not proved from fmt's source: count such statements apart). THE CARD IS WHAT COUNTS. Prove the row's statement (the work); the ties are given (YtofeonnmoakbaaaGreatDoorTie.lean); close each card by the builder's one call (the guide's Derived/Test/ToyasCard.lean, 'card_holds'). Laid BY PROGRAM, IN A SANDBOX (cutbox-door.mjs). By AI agents, Wed Nov 11 2026. No macro, syntax, notation, axiom, sorry.
-/
import Derived.Test.YtofeonnmoakbaaaGreatDoorRows
import GoSem.ClaimSeven
namespace Go.Proofs.YtofeonnmoakbaaaGreatDoor
namespace Rows

/-- THE TIED CARD OF 'publisherlaw31.StyleBack'. -/
def styleBackCard : Claim7 := { stood := { row := styleBackRow, standIns := [], harness := (true, "b8dc231aa1e7c459a854de35c4ef26ce837b28ecd4b9bbe2f7af3d07ac0563a6"), looks := true }, kinds := [], alts := [], laidByText := true, laidKinds := [.data, .data, .data, .data, .sentinel, .sentinel, .pinned], laidTests := true, laidLooks := .later }
def StyleBackCardSaid : Prop := Claim7.holds Tryz.pinned (.plain (OpenSpec.ofChange styleBackSpec)) styleBackCard

/-- THE TIED CARD OF 'publisherlaw31.StyleParses'. -/
def styleParsesCard : Claim7 := { stood := { row := styleParsesRow, standIns := [], harness := (true, "b8dc231aa1e7c459a854de35c4ef26ce837b28ecd4b9bbe2f7af3d07ac0563a6"), looks := true }, kinds := [], alts := [], laidByText := true, laidKinds := [.data, .data, .data, .data, .sentinel, .sentinel, .pinned], laidTests := true, laidLooks := .later }
def StyleParsesCardSaid : Prop := Claim7.holds Tryz.pinned (.plain (OpenSpec.ofChange styleParsesSpec)) styleParsesCard

/-- THE TIED CARD OF 'publisherlaw31.StyleFills'. -/
def styleFillsCard : Claim7 := { stood := { row := styleFillsRow, standIns := [], harness := (true, "b8dc231aa1e7c459a854de35c4ef26ce837b28ecd4b9bbe2f7af3d07ac0563a6"), looks := true }, kinds := [], alts := [], laidByText := true, laidKinds := [.data, .data, .data, .data, .sentinel, .sentinel, .pinned], laidTests := true, laidLooks := .later }
def StyleFillsCardSaid : Prop := Claim7.holds Tryz.pinned (.plain (OpenSpec.ofChange styleFillsSpec)) styleFillsCard

/-- THE TIED CARD OF 'publisherlaw31.StylePlain'. -/
def stylePlainCard : Claim7 := { stood := { row := stylePlainRow, standIns := [], harness := (true, "b8dc231aa1e7c459a854de35c4ef26ce837b28ecd4b9bbe2f7af3d07ac0563a6"), looks := true }, kinds := [], alts := [], laidByText := true, laidKinds := [.data, .data, .data, .data, .sentinel, .sentinel, .pinned], laidTests := true, laidLooks := .later }
def StylePlainCardSaid : Prop := Claim7.holds Tryz.pinned (.plain (OpenSpec.ofChange stylePlainSpec)) stylePlainCard

/-- THE TIED CARD OF 'publisherlaw31.StyleTells'. -/
def styleTellsCard : Claim7 := { stood := { row := styleTellsRow, standIns := [], harness := (true, "b8dc231aa1e7c459a854de35c4ef26ce837b28ecd4b9bbe2f7af3d07ac0563a6"), looks := true }, kinds := [], alts := [], laidByText := true, laidKinds := [.data, .data, .data, .data, .sentinel, .sentinel, .pinned], laidTests := true, laidLooks := .later }
def StyleTellsCardSaid : Prop := Claim7.holds Tryz.pinned (.plain (OpenSpec.ofChange styleTellsSpec)) styleTellsCard

/-- THE TIED CARD OF 'publisherlaw31.StyleBuiltins'. -/
def styleBuiltinsCard : Claim7 := { stood := { row := styleBuiltinsRow, standIns := [], harness := (true, "b8dc231aa1e7c459a854de35c4ef26ce837b28ecd4b9bbe2f7af3d07ac0563a6"), looks := true }, kinds := [], alts := [], laidByText := true, laidKinds := [.data, .data, .data, .data, .sentinel, .sentinel, .pinned], laidTests := true, laidLooks := .later }
def StyleBuiltinsCardSaid : Prop := Claim7.holds Tryz.pinned (.plain (OpenSpec.ofChange styleBuiltinsSpec)) styleBuiltinsCard

/-- THE SECOND FORM's CARD OF 'publisherlaw31.StyleBack'. -/
def styleBackUptoCard : Claim7 := { stood := { row := styleBackUptoRow, standIns := [], harness := (true, "b8dc231aa1e7c459a854de35c4ef26ce837b28ecd4b9bbe2f7af3d07ac0563a6"), looks := true }, kinds := [], alts := [], laidByText := true, laidKinds := [.data, .data, .data, .data, .sentinel, .sentinel, .pinned], laidTests := true, laidLooks := .later }
def StyleBackUptoCardSaid : Prop := Claim7.holds Tryz.pinned (.plain (OpenSpec.upto styleBackSpec)) styleBackUptoCard

/-- THE SECOND FORM's CARD OF 'publisherlaw31.StyleParses'. -/
def styleParsesUptoCard : Claim7 := { stood := { row := styleParsesUptoRow, standIns := [], harness := (true, "b8dc231aa1e7c459a854de35c4ef26ce837b28ecd4b9bbe2f7af3d07ac0563a6"), looks := true }, kinds := [], alts := [], laidByText := true, laidKinds := [.data, .data, .data, .data, .sentinel, .sentinel, .pinned], laidTests := true, laidLooks := .later }
def StyleParsesUptoCardSaid : Prop := Claim7.holds Tryz.pinned (.plain (OpenSpec.upto styleParsesSpec)) styleParsesUptoCard

/-- THE SECOND FORM's CARD OF 'publisherlaw31.StyleFills'. -/
def styleFillsUptoCard : Claim7 := { stood := { row := styleFillsUptoRow, standIns := [], harness := (true, "b8dc231aa1e7c459a854de35c4ef26ce837b28ecd4b9bbe2f7af3d07ac0563a6"), looks := true }, kinds := [], alts := [], laidByText := true, laidKinds := [.data, .data, .data, .data, .sentinel, .sentinel, .pinned], laidTests := true, laidLooks := .later }
def StyleFillsUptoCardSaid : Prop := Claim7.holds Tryz.pinned (.plain (OpenSpec.upto styleFillsSpec)) styleFillsUptoCard

/-- THE SECOND FORM's CARD OF 'publisherlaw31.StylePlain'. -/
def stylePlainUptoCard : Claim7 := { stood := { row := stylePlainUptoRow, standIns := [], harness := (true, "b8dc231aa1e7c459a854de35c4ef26ce837b28ecd4b9bbe2f7af3d07ac0563a6"), looks := true }, kinds := [], alts := [], laidByText := true, laidKinds := [.data, .data, .data, .data, .sentinel, .sentinel, .pinned], laidTests := true, laidLooks := .later }
def StylePlainUptoCardSaid : Prop := Claim7.holds Tryz.pinned (.plain (OpenSpec.upto stylePlainSpec)) stylePlainUptoCard

/-- THE SECOND FORM's CARD OF 'publisherlaw31.StyleTells'. -/
def styleTellsUptoCard : Claim7 := { stood := { row := styleTellsUptoRow, standIns := [], harness := (true, "b8dc231aa1e7c459a854de35c4ef26ce837b28ecd4b9bbe2f7af3d07ac0563a6"), looks := true }, kinds := [], alts := [], laidByText := true, laidKinds := [.data, .data, .data, .data, .sentinel, .sentinel, .pinned], laidTests := true, laidLooks := .later }
def StyleTellsUptoCardSaid : Prop := Claim7.holds Tryz.pinned (.plain (OpenSpec.upto styleTellsSpec)) styleTellsUptoCard

/-- THE SECOND FORM's CARD OF 'publisherlaw31.StyleBuiltins'. -/
def styleBuiltinsUptoCard : Claim7 := { stood := { row := styleBuiltinsUptoRow, standIns := [], harness := (true, "b8dc231aa1e7c459a854de35c4ef26ce837b28ecd4b9bbe2f7af3d07ac0563a6"), looks := true }, kinds := [], alts := [], laidByText := true, laidKinds := [.data, .data, .data, .data, .sentinel, .sentinel, .pinned], laidTests := true, laidLooks := .later }
def StyleBuiltinsUptoCardSaid : Prop := Claim7.holds Tryz.pinned (.plain (OpenSpec.upto styleBuiltinsSpec)) styleBuiltinsUptoCard
end Rows
end Go.Proofs.YtofeonnmoakbaaaGreatDoor
