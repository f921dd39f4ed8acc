/-
  DERIVED. GIVEN WITH THE SEED: THE CARDS: each row of YtnbhpmleboildaaGreatDoorRows.lean that lists a variable, with what it lists TIED to the program's text (the seventh form; the later family's looks); each row that meets fmt, with fmt's text TOLD by the authors' own Lean function (tested against real Go, not proved from fmt's source: count such statements apart). THE CARD IS WHAT COUNTS. Prove the row's statement (the work); the ties are given (YtnbhpmleboildaaGreatDoorTie.lean); close each card by the builder's one call (the guide's Derived/Test/ToyasCard.lean, 'card_holds'). Laid BY PROGRAM, IN A SANDBOX (cutbox-door.mjs). By AI agents, Wed Nov 11 2026. No macro, syntax, notation, axiom, sorry.
-/
import Derived.Test.YtnbhpmleboildaaGreatDoorRows
import GoSem.ClaimSeven
namespace Go.Proofs.YtnbhpmleboildaaGreatDoor
namespace Rows

/-- THE TIED CARD OF 'publisherlaw26.IndexGone'. -/
def indexGoneCard : Claim7 := { stood := { row := indexGoneRow, standIns := [], harness := (true, "f7d63fb3d923e24bf9992e17f3d31607d43a968acbe0a5f2efa98db74ebd11e0"), looks := false }, kinds := [], alts := [], laidByText := true, laidKinds := [.data, .data, .data, .data, .pinned], laidTests := true, laidLooks := .later }
def IndexGoneCardSaid : Prop := Claim7.holds Tryz.pinned (.plain (OpenSpec.ofChange indexGoneSpec)) indexGoneCard

/-- THE TIED CARD OF 'publisherlaw26.IndexSorts'. -/
def indexSortsCard : Claim7 := { stood := { row := indexSortsRow, standIns := [], harness := (true, "f7d63fb3d923e24bf9992e17f3d31607d43a968acbe0a5f2efa98db74ebd11e0"), looks := false }, kinds := [], alts := [], laidByText := true, laidKinds := [.data, .data, .data, .data, .pinned], laidTests := true, laidLooks := .later }
def IndexSortsCardSaid : Prop := Claim7.holds Tryz.pinned (.plain (OpenSpec.ofChange indexSortsSpec)) indexSortsCard

/-- THE SECOND FORM's CARD OF 'publisherlaw26.IndexGone'. -/
def indexGoneUptoCard : Claim7 := { stood := { row := indexGoneUptoRow, standIns := [], harness := (true, "f7d63fb3d923e24bf9992e17f3d31607d43a968acbe0a5f2efa98db74ebd11e0"), looks := false }, kinds := [], alts := [], laidByText := true, laidKinds := [.data, .data, .data, .data, .pinned], laidTests := true, laidLooks := .later }
def IndexGoneUptoCardSaid : Prop := Claim7.holds Tryz.pinned (.plain (OpenSpec.upto indexGoneSpec)) indexGoneUptoCard

/-- THE SECOND FORM's CARD OF 'publisherlaw26.IndexSorts'. -/
def indexSortsUptoCard : Claim7 := { stood := { row := indexSortsUptoRow, standIns := [], harness := (true, "f7d63fb3d923e24bf9992e17f3d31607d43a968acbe0a5f2efa98db74ebd11e0"), looks := false }, kinds := [], alts := [], laidByText := true, laidKinds := [.data, .data, .data, .data, .pinned], laidTests := true, laidLooks := .later }
def IndexSortsUptoCardSaid : Prop := Claim7.holds Tryz.pinned (.plain (OpenSpec.upto indexSortsSpec)) indexSortsUptoCard
end Rows
end Go.Proofs.YtnbhpmleboildaaGreatDoor
