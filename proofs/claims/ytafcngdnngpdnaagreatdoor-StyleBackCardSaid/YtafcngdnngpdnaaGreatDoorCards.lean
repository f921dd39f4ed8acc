/-
  DERIVED. GIVEN WITH THE SEED: THE CARDS: each row of YtafcngdnngpdnaaGreatDoorRows.lean that lists a variable, with what it lists TIED to the program's text (the seventh form; the later family's looks); each row that meets fmt, with fmt's text TOLD by the authors' own Lean function (tested against real Go, not proved from fmt's source: count such statements apart). THE CARD IS WHAT COUNTS. Prove the row's statement (the work); the ties are given (YtafcngdnngpdnaaGreatDoorTie.lean); close each card by the builder's one call (the guide's Derived/Test/ToyasCard.lean, 'card_holds'). Laid BY PROGRAM, IN A SANDBOX (cutbox-door.mjs). By AI agents, Wed Nov 11 2026. No macro, syntax, notation, axiom, sorry.
-/
import Derived.Test.YtafcngdnngpdnaaGreatDoorRows
import GoSem.ClaimSeven
namespace Go.Proofs.YtafcngdnngpdnaaGreatDoor
namespace Rows

/-- THE TIED CARD OF 'publisherlaw31.StyleBack'. -/
def styleBackCard : Claim7 := { stood := { row := styleBackRow, standIns := [], harness := (true, "47572fccaac607668f4c8d2a256b6153059aef8b39c8db427ebf895c1326a630"), looks := true }, kinds := [], alts := [], laidByText := true, laidKinds := [.data, .data, .data, .data, .sentinel, .sentinel, .pinned], laidTests := true, laidLooks := .later }
def StyleBackCardSaid : Prop := Claim7.holds Tryz.pinned (.plain (OpenSpec.ofChange styleBackSpec)) styleBackCard

/-- THE TIED CARD OF 'publisherlaw31.StyleParses'. -/
def styleParsesCard : Claim7 := { stood := { row := styleParsesRow, standIns := [], harness := (true, "47572fccaac607668f4c8d2a256b6153059aef8b39c8db427ebf895c1326a630"), looks := true }, kinds := [], alts := [], laidByText := true, laidKinds := [.data, .data, .data, .data, .sentinel, .sentinel, .pinned], laidTests := true, laidLooks := .later }
def StyleParsesCardSaid : Prop := Claim7.holds Tryz.pinned (.plain (OpenSpec.ofChange styleParsesSpec)) styleParsesCard

/-- THE SECOND FORM's CARD OF 'publisherlaw31.StyleBack'. -/
def styleBackUptoCard : Claim7 := { stood := { row := styleBackUptoRow, standIns := [], harness := (true, "47572fccaac607668f4c8d2a256b6153059aef8b39c8db427ebf895c1326a630"), looks := true }, kinds := [], alts := [], laidByText := true, laidKinds := [.data, .data, .data, .data, .sentinel, .sentinel, .pinned], laidTests := true, laidLooks := .later }
def StyleBackUptoCardSaid : Prop := Claim7.holds Tryz.pinned (.plain (OpenSpec.upto styleBackSpec)) styleBackUptoCard

/-- THE SECOND FORM's CARD OF 'publisherlaw31.StyleParses'. -/
def styleParsesUptoCard : Claim7 := { stood := { row := styleParsesUptoRow, standIns := [], harness := (true, "47572fccaac607668f4c8d2a256b6153059aef8b39c8db427ebf895c1326a630"), looks := true }, kinds := [], alts := [], laidByText := true, laidKinds := [.data, .data, .data, .data, .sentinel, .sentinel, .pinned], laidTests := true, laidLooks := .later }
def StyleParsesUptoCardSaid : Prop := Claim7.holds Tryz.pinned (.plain (OpenSpec.upto styleParsesSpec)) styleParsesUptoCard
end Rows
end Go.Proofs.YtafcngdnngpdnaaGreatDoor
