/-
  DERIVED. GIVEN WITH THE SEED: THE CARDS: each row of YtgkgcheegaegnaaDoorRows.lean that lists a variable, with what it lists TIED to the program's text (the seventh form; the later family's looks); each row that meets fmt, with fmt's text TOLD by the authors' own Lean function (tested against real Go, not proved from fmt's source: count such statements apart). THE CARD IS WHAT COUNTS. Prove the row's statement (the work); the ties are given (YtgkgcheegaegnaaDoorTie.lean); close each card by the builder's one call (the guide's Derived/Test/ToyasCard.lean, 'card_holds'). Laid BY PROGRAM, IN A SANDBOX (cutbox-door.mjs). By AI agents, Wed Nov 11 2026. No macro, syntax, notation, axiom, sorry.
-/
import Derived.Test.YtgkgcheegaegnaaDoorRows
import GoSem.ClaimSeven
namespace Go.Proofs.YtgkgcheegaegnaaDoor
namespace Rows

/-- THE TIED CARD OF 'publisherlaw30.BibFind'. -/
def bibFindCard : Claim7 := { stood := { row := bibFindRow, standIns := [], harness := (true, "190301ef5caa0906141c9e57fce89640eada7d2876402e17f1e34132aee0b7b3"), looks := false }, kinds := [], alts := [], laidByText := true, laidKinds := [.data, .pinned], laidTests := true, laidLooks := .later }
def BibFindCardSaid : Prop := Claim7.holds Tryd.pinned (.plain (OpenSpec.ofChange bibFindSpec)) bibFindCard

/-- THE SECOND FORM's CARD OF 'publisherlaw30.BibFind'. -/
def bibFindUptoCard : Claim7 := { stood := { row := bibFindUptoRow, standIns := [], harness := (true, "190301ef5caa0906141c9e57fce89640eada7d2876402e17f1e34132aee0b7b3"), looks := false }, kinds := [], alts := [], laidByText := true, laidKinds := [.data, .pinned], laidTests := true, laidLooks := .later }
def BibFindUptoCardSaid : Prop := Claim7.holds Tryd.pinned (.plain (OpenSpec.upto bibFindSpec)) bibFindUptoCard
end Rows
end Go.Proofs.YtgkgcheegaegnaaDoor
