/-
  DERIVED. GIVEN WITH THE SEED: THE CARDS: each row of YtnldgmhdjancbaaGreatDoorRows.lean that lists a variable, with what it lists TIED to the program's text (the seventh form; the later family's looks); each row that meets fmt, with fmt's text TOLD by the authors' own Lean function (tested against real Go, not proved from fmt's source: count such statements apart). THE CARD IS WHAT COUNTS. Prove the row's statement (the work); the ties are given (YtnldgmhdjancbaaGreatDoorTie.lean); close each card by the builder's one call (the guide's Derived/Test/ToyasCard.lean, 'card_holds'). Laid BY PROGRAM, IN A SANDBOX (cutbox-door.mjs). By AI agents, Wed Nov 11 2026. No macro, syntax, notation, axiom, sorry.
-/
import Derived.Test.YtnldgmhdjancbaaGreatDoorRows
import GoSem.ClaimSeven
namespace Go.Proofs.YtnldgmhdjancbaaGreatDoor
namespace Rows

/-- THE TIED CARD OF 'publisherlaw32.CiteGone'. -/
def citeGoneCard : Claim7 := { stood := { row := citeGoneRow, standIns := [], harness := (true, "8abf08b2ad4871be3af71838dfd556a606a2b0afa1ad703f8f5d0396c4d9bb2d"), looks := false }, kinds := [], alts := [], laidByText := true, laidKinds := [.data, .data, .data, .data, .listed, .data, .pinned], laidTests := true, laidLooks := .later }
def CiteGoneCardSaid : Prop := Claim7.holds Tryz.pinned (.plain (OpenSpec.ofChange citeGoneSpec)) citeGoneCard

/-- THE SECOND FORM's CARD OF 'publisherlaw32.CiteGone'. -/
def citeGoneUptoCard : Claim7 := { stood := { row := citeGoneUptoRow, standIns := [], harness := (true, "8abf08b2ad4871be3af71838dfd556a606a2b0afa1ad703f8f5d0396c4d9bb2d"), looks := false }, kinds := [], alts := [], laidByText := true, laidKinds := [.data, .data, .data, .data, .listed, .data, .pinned], laidTests := true, laidLooks := .later }
def CiteGoneUptoCardSaid : Prop := Claim7.holds Tryz.pinned (.plain (OpenSpec.upto citeGoneSpec)) citeGoneUptoCard
end Rows
end Go.Proofs.YtnldgmhdjancbaaGreatDoor
