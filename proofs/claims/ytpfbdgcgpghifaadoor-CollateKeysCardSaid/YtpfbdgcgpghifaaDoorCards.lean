/-
  DERIVED. GIVEN WITH THE SEED: THE CARDS: each row of YtpfbdgcgpghifaaDoorRows.lean that lists a variable, with what it lists TIED to the program's text (the seventh form; the later family's looks); each row that meets fmt, with fmt's text TOLD by the authors' own Lean function (tested against real Go, not proved from fmt's source: count such statements apart). THE CARD IS WHAT COUNTS. Prove the row's statement (the work); the ties are given (YtpfbdgcgpghifaaDoorTie.lean); close each card by the builder's one call (the guide's Derived/Test/ToyasCard.lean, 'card_holds'). Laid BY PROGRAM, IN A SANDBOX (cutbox-door.mjs). By AI agents, Wed Nov 11 2026. No macro, syntax, notation, axiom, sorry.
-/
import Derived.Test.YtpfbdgcgpghifaaDoorRows
import GoSem.ClaimSeven
namespace Go.Proofs.YtpfbdgcgpghifaaDoor
namespace Rows

/-- THE TIED CARD OF 'publisherlaw25.CollateKeys'. -/
def collateKeysCard : Claim7 := { stood := { row := collateKeysRow, standIns := [], harness := (true, "5befddd6f624c5438eb6baa1c434ac952bd0d7c6c01e78a692d560b30c6e9531"), looks := false }, kinds := [], alts := [], laidByText := true, laidKinds := [.data, .pinned], laidTests := true, laidLooks := .later }
def CollateKeysCardSaid : Prop := Claim7.holds Tryd.pinned (.plain (OpenSpec.ofChange collateKeysSpec)) collateKeysCard

/-- THE SECOND FORM's CARD OF 'publisherlaw25.CollateKeys'. -/
def collateKeysUptoCard : Claim7 := { stood := { row := collateKeysUptoRow, standIns := [], harness := (true, "5befddd6f624c5438eb6baa1c434ac952bd0d7c6c01e78a692d560b30c6e9531"), looks := false }, kinds := [], alts := [], laidByText := true, laidKinds := [.data, .pinned], laidTests := true, laidLooks := .later }
def CollateKeysUptoCardSaid : Prop := Claim7.holds Tryd.pinned (.plain (OpenSpec.upto collateKeysSpec)) collateKeysUptoCard
end Rows
end Go.Proofs.YtpfbdgcgpghifaaDoor
