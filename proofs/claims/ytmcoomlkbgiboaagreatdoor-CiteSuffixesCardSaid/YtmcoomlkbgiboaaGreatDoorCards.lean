/-
  DERIVED. GIVEN WITH THE SEED: THE CARDS: each row of YtmcoomlkbgiboaaGreatDoorRows.lean that lists a variable, with what it lists TIED to the program's text (the seventh form; the later family's looks); each row that meets fmt, with fmt's text TOLD by the authors' own Lean function (tested against real Go, not proved from fmt's source: count such statements apart). THE CARD IS WHAT COUNTS. Prove the row's statement (the work); the ties are given (YtmcoomlkbgiboaaGreatDoorTie.lean); close each card by the builder's one call (the guide's Derived/Test/ToyasCard.lean, 'card_holds'). Laid BY PROGRAM, IN A SANDBOX (cutbox-door.mjs). By AI agents, Wed Nov 11 2026. No macro, syntax, notation, axiom, sorry.
-/
import Derived.Test.YtmcoomlkbgiboaaGreatDoorRows
import GoSem.ClaimSeven
namespace Go.Proofs.YtmcoomlkbgiboaaGreatDoor
namespace Rows

/-- THE TIED CARD OF 'publisherlaw32.CiteKeys'. -/
def citeKeysCard : Claim7 := { stood := { row := citeKeysRow, standIns := [], harness := (true, "a3486ee7bb8d7469ac2cf2dd8cfa4d7d4700e0a103e6cfb4673bcac890c3b7bb"), looks := false }, kinds := [], alts := [], laidByText := true, laidKinds := [.data, .data, .data, .data, .listed, .data, .pinned], laidTests := true, laidLooks := .later }
def CiteKeysCardSaid : Prop := Claim7.holds Tryz.pinned (.plain (OpenSpec.ofChange citeKeysSpec)) citeKeysCard

/-- THE TIED CARD OF 'publisherlaw32.CiteOrders'. -/
def citeOrdersCard : Claim7 := { stood := { row := citeOrdersRow, standIns := [], harness := (true, "a3486ee7bb8d7469ac2cf2dd8cfa4d7d4700e0a103e6cfb4673bcac890c3b7bb"), looks := false }, kinds := [], alts := [], laidByText := true, laidKinds := [.data, .data, .data, .data, .listed, .data, .pinned], laidTests := true, laidLooks := .later }
def CiteOrdersCardSaid : Prop := Claim7.holds Tryz.pinned (.plain (OpenSpec.ofChange citeOrdersSpec)) citeOrdersCard

/-- THE TIED CARD OF 'publisherlaw32.CiteSuffixes'. -/
def citeSuffixesCard : Claim7 := { stood := { row := citeSuffixesRow, standIns := [], harness := (true, "a3486ee7bb8d7469ac2cf2dd8cfa4d7d4700e0a103e6cfb4673bcac890c3b7bb"), looks := false }, kinds := [], alts := [], laidByText := true, laidKinds := [.data, .data, .data, .data, .listed, .data, .pinned], laidTests := true, laidLooks := .later }
def CiteSuffixesCardSaid : Prop := Claim7.holds Tryz.pinned (.plain (OpenSpec.ofChange citeSuffixesSpec)) citeSuffixesCard

/-- THE TIED CARD OF 'publisherlaw32.CiteApart'. -/
def citeApartCard : Claim7 := { stood := { row := citeApartRow, standIns := [], harness := (true, "a3486ee7bb8d7469ac2cf2dd8cfa4d7d4700e0a103e6cfb4673bcac890c3b7bb"), looks := false }, kinds := [], alts := [], laidByText := true, laidKinds := [.data, .data, .data, .data, .listed, .data, .pinned], laidTests := true, laidLooks := .later }
def CiteApartCardSaid : Prop := Claim7.holds Tryz.pinned (.plain (OpenSpec.ofChange citeApartSpec)) citeApartCard

/-- THE TIED CARD OF 'publisherlaw32.CiteSorts'. -/
def citeSortsCard : Claim7 := { stood := { row := citeSortsRow, standIns := [], harness := (true, "a3486ee7bb8d7469ac2cf2dd8cfa4d7d4700e0a103e6cfb4673bcac890c3b7bb"), looks := false }, kinds := [], alts := [], laidByText := true, laidKinds := [.data, .data, .data, .data, .listed, .data, .pinned], laidTests := true, laidLooks := .later }
def CiteSortsCardSaid : Prop := Claim7.holds Tryz.pinned (.plain (OpenSpec.ofChange citeSortsSpec)) citeSortsCard

/-- THE TIED CARD OF 'publisherlaw32.CiteGone'. -/
def citeGoneCard : Claim7 := { stood := { row := citeGoneRow, standIns := [], harness := (true, "a3486ee7bb8d7469ac2cf2dd8cfa4d7d4700e0a103e6cfb4673bcac890c3b7bb"), looks := false }, kinds := [], alts := [], laidByText := true, laidKinds := [.data, .data, .data, .data, .listed, .data, .pinned], laidTests := true, laidLooks := .later }
def CiteGoneCardSaid : Prop := Claim7.holds Tryz.pinned (.plain (OpenSpec.ofChange citeGoneSpec)) citeGoneCard

/-- THE SECOND FORM's CARD OF 'publisherlaw32.CiteKeys'. -/
def citeKeysUptoCard : Claim7 := { stood := { row := citeKeysUptoRow, standIns := [], harness := (true, "a3486ee7bb8d7469ac2cf2dd8cfa4d7d4700e0a103e6cfb4673bcac890c3b7bb"), looks := false }, kinds := [], alts := [], laidByText := true, laidKinds := [.data, .data, .data, .data, .listed, .data, .pinned], laidTests := true, laidLooks := .later }
def CiteKeysUptoCardSaid : Prop := Claim7.holds Tryz.pinned (.plain (OpenSpec.upto citeKeysSpec)) citeKeysUptoCard

/-- THE SECOND FORM's CARD OF 'publisherlaw32.CiteOrders'. -/
def citeOrdersUptoCard : Claim7 := { stood := { row := citeOrdersUptoRow, standIns := [], harness := (true, "a3486ee7bb8d7469ac2cf2dd8cfa4d7d4700e0a103e6cfb4673bcac890c3b7bb"), looks := false }, kinds := [], alts := [], laidByText := true, laidKinds := [.data, .data, .data, .data, .listed, .data, .pinned], laidTests := true, laidLooks := .later }
def CiteOrdersUptoCardSaid : Prop := Claim7.holds Tryz.pinned (.plain (OpenSpec.upto citeOrdersSpec)) citeOrdersUptoCard

/-- THE SECOND FORM's CARD OF 'publisherlaw32.CiteSuffixes'. -/
def citeSuffixesUptoCard : Claim7 := { stood := { row := citeSuffixesUptoRow, standIns := [], harness := (true, "a3486ee7bb8d7469ac2cf2dd8cfa4d7d4700e0a103e6cfb4673bcac890c3b7bb"), looks := false }, kinds := [], alts := [], laidByText := true, laidKinds := [.data, .data, .data, .data, .listed, .data, .pinned], laidTests := true, laidLooks := .later }
def CiteSuffixesUptoCardSaid : Prop := Claim7.holds Tryz.pinned (.plain (OpenSpec.upto citeSuffixesSpec)) citeSuffixesUptoCard

/-- THE SECOND FORM's CARD OF 'publisherlaw32.CiteApart'. -/
def citeApartUptoCard : Claim7 := { stood := { row := citeApartUptoRow, standIns := [], harness := (true, "a3486ee7bb8d7469ac2cf2dd8cfa4d7d4700e0a103e6cfb4673bcac890c3b7bb"), looks := false }, kinds := [], alts := [], laidByText := true, laidKinds := [.data, .data, .data, .data, .listed, .data, .pinned], laidTests := true, laidLooks := .later }
def CiteApartUptoCardSaid : Prop := Claim7.holds Tryz.pinned (.plain (OpenSpec.upto citeApartSpec)) citeApartUptoCard

/-- THE SECOND FORM's CARD OF 'publisherlaw32.CiteSorts'. -/
def citeSortsUptoCard : Claim7 := { stood := { row := citeSortsUptoRow, standIns := [], harness := (true, "a3486ee7bb8d7469ac2cf2dd8cfa4d7d4700e0a103e6cfb4673bcac890c3b7bb"), looks := false }, kinds := [], alts := [], laidByText := true, laidKinds := [.data, .data, .data, .data, .listed, .data, .pinned], laidTests := true, laidLooks := .later }
def CiteSortsUptoCardSaid : Prop := Claim7.holds Tryz.pinned (.plain (OpenSpec.upto citeSortsSpec)) citeSortsUptoCard

/-- THE SECOND FORM's CARD OF 'publisherlaw32.CiteGone'. -/
def citeGoneUptoCard : Claim7 := { stood := { row := citeGoneUptoRow, standIns := [], harness := (true, "a3486ee7bb8d7469ac2cf2dd8cfa4d7d4700e0a103e6cfb4673bcac890c3b7bb"), looks := false }, kinds := [], alts := [], laidByText := true, laidKinds := [.data, .data, .data, .data, .listed, .data, .pinned], laidTests := true, laidLooks := .later }
def CiteGoneUptoCardSaid : Prop := Claim7.holds Tryz.pinned (.plain (OpenSpec.upto citeGoneSpec)) citeGoneUptoCard
end Rows
end Go.Proofs.YtmcoomlkbgiboaaGreatDoor
