/-
  NARROWER THAN 'FOR EVERY INPUT', by the rows' own cells (each row's printed sentence says how): PersonParses: laid · PersonTexts: laid · PersonNames: laid · PersonLists: laid · PersonReturns: laid · PersonSpaces: laid · PersonHolds: laid · BibFind: laid · BibTidy: laid.
  DERIVED. THE GIVEN ROWS OF THIS SEAT. 9 by the template 'for every input the law returns true; each argument reads behind the call as it read before'; 0 by the template 'total and deterministic' (their statements: YtflpkadknljpbaaDoorTotals.lean).
  GIVEN WITH THE SEED: the statements are not yours to turn. If you find one false, say at which input.
  Laid BY PROGRAM, IN A SANDBOX (cutbox-rows.mjs): the forced cells as the released guide's own fill.sh prints them over the translation f4d10934e01e3882… (all of the seat's roots in one cut). By AI agents, Wed Nov 11 2026. No macro, syntax, notation, axiom, sorry.
-/
import Derived.Test.YtflpkadknljpbaaDoorChecked
import GoSem.PinnedTables
import GoSem.Claim
import GoSem.ClaimJoined
import GoSem.ClaimMapViews
import Derived.JoinedTies
import Derived.KernelRfl
namespace Go.Proofs.YtflpkadknljpbaaDoor
/- THE CELL 'sum', in the pinned program and in every row, IS THE sha256 OF THE DUMP (.gsa) THAT YtflpkadknljpbaaDoorProg.lean LOADS. Nothing in Lean hashes anything: it is a label: what it is worth is what the hold of that sum in a sandbox is worth. -/
noncomputable def Tryd.pinned : Pinned := { name := "ytflpkadknljpbaadoor", sum := "f4d10934e01e38829955ca29c8a82361afe820a7cdf702977938f448736c08aa", checked := Tryd.checked }
namespace Rows
def none {H : Type} : Left H := { results := [], args := [] }

/- WHAT THE LISTED PACKAGE-LEVEL VARIABLES READ AS WHEN THE CALL BEGINS. Each datum BY PROGRAM (the guide's laid-datum.mjs) off the statement by which the dump's own 'gosem.cut.vars' lays the variable. In a bare row this is a premise. The card (YtflpkadknljpbaaDoorCards.lean) ties it to the program's text. -/
def laid_unicode_utf8_acceptRanges {H : Type} : DataW H := .agg [.agg [.lit (.int .u8 128), .lit (.int .u8 191)], .agg [.lit (.int .u8 160), .lit (.int .u8 191)], .agg [.lit (.int .u8 128), .lit (.int .u8 159)], .agg [.lit (.int .u8 144), .lit (.int .u8 191)], .agg [.lit (.int .u8 128), .lit (.int .u8 143)], .agg [.lit (.int .u8 0), .lit (.int .u8 0)], .agg [.lit (.int .u8 0), .lit (.int .u8 0)], .agg [.lit (.int .u8 0), .lit (.int .u8 0)], .agg [.lit (.int .u8 0), .lit (.int .u8 0)], .agg [.lit (.int .u8 0), .lit (.int .u8 0)], .agg [.lit (.int .u8 0), .lit (.int .u8 0)], .agg [.lit (.int .u8 0), .lit (.int .u8 0)], .agg [.lit (.int .u8 0), .lit (.int .u8 0)], .agg [.lit (.int .u8 0), .lit (.int .u8 0)], .agg [.lit (.int .u8 0), .lit (.int .u8 0)], .agg [.lit (.int .u8 0), .lit (.int .u8 0)]]
/-- One of Go's own tables, pinned by name: the form's constant. -/
def laid_unicode_utf8_first : DataW Unit := Go.Pinned.utf8First

/-- 'publisherlaw29.PersonParses': WHATEVER THE INPUT: true; the input reads as it did. -/
def personParsesSpec : ChangeSpec := { name := "personParses", fn := fun _ => fun
  | [d] => { results := [.lit (.bool true)], args := [d] }
  | _ => none }
def personParsesRow : OpenClaim := { program := "ytflpkadknljpbaadoor", sum := "f4d10934e01e38829955ca29c8a82361afe820a7cdf702977938f448736c08aa", func := "publisher/publisherlaw29.PersonParses", spec := "personParses", inPlace := ["internal/bytealg.IndexByteString", "internal/bytealg.IndexString", "internal/bytealg.CountString", "internal/abi.NoEscape", "internal/bytealg.MakeNoZero"], named := ["internal/bytealg.MaxLen", "unicode/utf8.first", "unicode/utf8.acceptRanges"], apart := false, laid := [("unicode/utf8.acceptRanges", laid_unicode_utf8_acceptRanges), ("unicode/utf8.first", laid_unicode_utf8_first)] }
def PersonParsesSaid : Prop := personParsesRow.holds Tryd.pinned (OpenSpec.ofChange personParsesSpec)

/-- ITS FALSE NEIGHBOUR: 'it returns false'. Refute it at one input. -/
def personParsesWrong : ChangeSpec := { name := "personParses", fn := fun _ => fun
  | [d] => { results := [.lit (.bool false)], args := [d] }
  | _ => none }
def PersonParsesWrongFalsely : Prop := personParsesRow.holds Tryd.pinned (OpenSpec.ofChange personParsesWrong)

/-- 'publisherlaw29.PersonTexts': WHATEVER THE INPUT: true; the input reads as it did. -/
def personTextsSpec : ChangeSpec := { name := "personTexts", fn := fun _ => fun
  | [d] => { results := [.lit (.bool true)], args := [d] }
  | _ => none }
def personTextsRow : OpenClaim := { program := "ytflpkadknljpbaadoor", sum := "f4d10934e01e38829955ca29c8a82361afe820a7cdf702977938f448736c08aa", func := "publisher/publisherlaw29.PersonTexts", spec := "personTexts", inPlace := ["internal/bytealg.IndexByteString", "internal/bytealg.IndexString", "internal/bytealg.CountString", "internal/abi.NoEscape", "internal/bytealg.MakeNoZero"], named := ["internal/bytealg.MaxLen", "unicode/utf8.first", "unicode/utf8.acceptRanges"], apart := false, laid := [("unicode/utf8.acceptRanges", laid_unicode_utf8_acceptRanges), ("unicode/utf8.first", laid_unicode_utf8_first)] }
def PersonTextsSaid : Prop := personTextsRow.holds Tryd.pinned (OpenSpec.ofChange personTextsSpec)

/-- ITS FALSE NEIGHBOUR: 'it returns false'. Refute it at one input. -/
def personTextsWrong : ChangeSpec := { name := "personTexts", fn := fun _ => fun
  | [d] => { results := [.lit (.bool false)], args := [d] }
  | _ => none }
def PersonTextsWrongFalsely : Prop := personTextsRow.holds Tryd.pinned (OpenSpec.ofChange personTextsWrong)

/-- 'publisherlaw29.PersonNames': WHATEVER THE INPUT: true; the input reads as it did. -/
def personNamesSpec : ChangeSpec := { name := "personNames", fn := fun _ => fun
  | [d1, d2] => { results := [.lit (.bool true)], args := [d1, d2] }
  | _ => none }
def personNamesRow : OpenClaim := { program := "ytflpkadknljpbaadoor", sum := "f4d10934e01e38829955ca29c8a82361afe820a7cdf702977938f448736c08aa", func := "publisher/publisherlaw29.PersonNames", spec := "personNames", inPlace := ["internal/bytealg.IndexByteString", "internal/bytealg.IndexString", "internal/bytealg.CountString", "internal/abi.NoEscape", "internal/bytealg.MakeNoZero"], recurses := true, named := ["internal/bytealg.MaxLen", "unicode/utf8.first", "unicode/utf8.acceptRanges"], apart := false, laid := [("unicode/utf8.acceptRanges", laid_unicode_utf8_acceptRanges), ("unicode/utf8.first", laid_unicode_utf8_first)] }
def PersonNamesSaid : Prop := personNamesRow.holds Tryd.pinned (OpenSpec.ofChange personNamesSpec)

/-- ITS FALSE NEIGHBOUR: 'it returns false'. Refute it at one input. -/
def personNamesWrong : ChangeSpec := { name := "personNames", fn := fun _ => fun
  | [d1, d2] => { results := [.lit (.bool false)], args := [d1, d2] }
  | _ => none }
def PersonNamesWrongFalsely : Prop := personNamesRow.holds Tryd.pinned (OpenSpec.ofChange personNamesWrong)

/-- 'publisherlaw29.PersonLists': WHATEVER THE INPUT: true; the input reads as it did. -/
def personListsSpec : ChangeSpec := { name := "personLists", fn := fun _ => fun
  | [d1, d2, d3, d4] => { results := [.lit (.bool true)], args := [d1, d2, d3, d4] }
  | _ => none }
def personListsRow : OpenClaim := { program := "ytflpkadknljpbaadoor", sum := "f4d10934e01e38829955ca29c8a82361afe820a7cdf702977938f448736c08aa", func := "publisher/publisherlaw29.PersonLists", spec := "personLists", inPlace := ["internal/bytealg.IndexByteString", "internal/bytealg.IndexString", "internal/bytealg.CountString", "internal/abi.NoEscape", "internal/bytealg.MakeNoZero"], named := ["internal/bytealg.MaxLen", "unicode/utf8.first", "unicode/utf8.acceptRanges"], apart := false, laid := [("unicode/utf8.acceptRanges", laid_unicode_utf8_acceptRanges), ("unicode/utf8.first", laid_unicode_utf8_first)] }
def PersonListsSaid : Prop := personListsRow.holds Tryd.pinned (OpenSpec.ofChange personListsSpec)

/-- ITS FALSE NEIGHBOUR: 'it returns false'. Refute it at one input. -/
def personListsWrong : ChangeSpec := { name := "personLists", fn := fun _ => fun
  | [d1, d2, d3, d4] => { results := [.lit (.bool false)], args := [d1, d2, d3, d4] }
  | _ => none }
def PersonListsWrongFalsely : Prop := personListsRow.holds Tryd.pinned (OpenSpec.ofChange personListsWrong)

/-- 'publisherlaw29.PersonReturns': WHATEVER THE INPUT: true; the input reads as it did. -/
def personReturnsSpec : ChangeSpec := { name := "personReturns", fn := fun _ => fun
  | [d1, d2] => { results := [.lit (.bool true)], args := [d1, d2] }
  | _ => none }
def personReturnsRow : OpenClaim := { program := "ytflpkadknljpbaadoor", sum := "f4d10934e01e38829955ca29c8a82361afe820a7cdf702977938f448736c08aa", func := "publisher/publisherlaw29.PersonReturns", spec := "personReturns", inPlace := ["internal/bytealg.IndexByteString", "internal/bytealg.IndexString", "internal/bytealg.CountString", "internal/abi.NoEscape", "internal/bytealg.MakeNoZero"], named := ["internal/bytealg.MaxLen", "unicode/utf8.first", "unicode/utf8.acceptRanges"], apart := false, laid := [("unicode/utf8.acceptRanges", laid_unicode_utf8_acceptRanges), ("unicode/utf8.first", laid_unicode_utf8_first)] }
def PersonReturnsSaid : Prop := personReturnsRow.holds Tryd.pinned (OpenSpec.ofChange personReturnsSpec)

/-- ITS FALSE NEIGHBOUR: 'it returns false'. Refute it at one input. -/
def personReturnsWrong : ChangeSpec := { name := "personReturns", fn := fun _ => fun
  | [d1, d2] => { results := [.lit (.bool false)], args := [d1, d2] }
  | _ => none }
def PersonReturnsWrongFalsely : Prop := personReturnsRow.holds Tryd.pinned (OpenSpec.ofChange personReturnsWrong)

/-- 'publisherlaw29.PersonSpaces': WHATEVER THE INPUT: true; the input reads as it did. -/
def personSpacesSpec : ChangeSpec := { name := "personSpaces", fn := fun _ => fun
  | [d1, d2] => { results := [.lit (.bool true)], args := [d1, d2] }
  | _ => none }
def personSpacesRow : OpenClaim := { program := "ytflpkadknljpbaadoor", sum := "f4d10934e01e38829955ca29c8a82361afe820a7cdf702977938f448736c08aa", func := "publisher/publisherlaw29.PersonSpaces", spec := "personSpaces", inPlace := ["internal/bytealg.IndexByteString", "internal/bytealg.IndexString", "internal/bytealg.CountString", "internal/abi.NoEscape", "internal/bytealg.MakeNoZero"], named := ["internal/bytealg.MaxLen", "unicode/utf8.first", "unicode/utf8.acceptRanges"], apart := false, laid := [("unicode/utf8.acceptRanges", laid_unicode_utf8_acceptRanges), ("unicode/utf8.first", laid_unicode_utf8_first)] }
def PersonSpacesSaid : Prop := personSpacesRow.holds Tryd.pinned (OpenSpec.ofChange personSpacesSpec)

/-- ITS FALSE NEIGHBOUR: 'it returns false'. Refute it at one input. -/
def personSpacesWrong : ChangeSpec := { name := "personSpaces", fn := fun _ => fun
  | [d1, d2] => { results := [.lit (.bool false)], args := [d1, d2] }
  | _ => none }
def PersonSpacesWrongFalsely : Prop := personSpacesRow.holds Tryd.pinned (OpenSpec.ofChange personSpacesWrong)

/-- 'publisherlaw29.PersonHolds': WHATEVER THE INPUT: true; the input reads as it did. -/
def personHoldsSpec : ChangeSpec := { name := "personHolds", fn := fun _ => fun
  | [d1, d2] => { results := [.lit (.bool true)], args := [d1, d2] }
  | _ => none }
def personHoldsRow : OpenClaim := { program := "ytflpkadknljpbaadoor", sum := "f4d10934e01e38829955ca29c8a82361afe820a7cdf702977938f448736c08aa", func := "publisher/publisherlaw29.PersonHolds", spec := "personHolds", inPlace := ["internal/bytealg.IndexByteString", "internal/bytealg.IndexString", "internal/bytealg.CountString", "internal/abi.NoEscape", "internal/bytealg.MakeNoZero"], named := ["internal/bytealg.MaxLen", "unicode/utf8.first", "unicode/utf8.acceptRanges"], apart := false, laid := [("unicode/utf8.acceptRanges", laid_unicode_utf8_acceptRanges), ("unicode/utf8.first", laid_unicode_utf8_first)] }
def PersonHoldsSaid : Prop := personHoldsRow.holds Tryd.pinned (OpenSpec.ofChange personHoldsSpec)

/-- ITS FALSE NEIGHBOUR: 'it returns false'. Refute it at one input. -/
def personHoldsWrong : ChangeSpec := { name := "personHolds", fn := fun _ => fun
  | [d1, d2] => { results := [.lit (.bool false)], args := [d1, d2] }
  | _ => none }
def PersonHoldsWrongFalsely : Prop := personHoldsRow.holds Tryd.pinned (OpenSpec.ofChange personHoldsWrong)

/-- 'publisherlaw30.BibFind': WHATEVER THE INPUT: true; the input reads as it did. -/
def bibFindSpec : ChangeSpec := { name := "bibFind", fn := fun _ => fun
  | [d1, d2] => { results := [.lit (.bool true)], args := [d1, d2] }
  | _ => none }
def bibFindRow : OpenClaim := { program := "ytflpkadknljpbaadoor", sum := "f4d10934e01e38829955ca29c8a82361afe820a7cdf702977938f448736c08aa", func := "publisher/publisherlaw30.BibFind", spec := "bibFind", inPlace := ["internal/bytealg.IndexByteString", "internal/bytealg.IndexString", "internal/bytealg.CountString", "internal/abi.NoEscape", "internal/bytealg.MakeNoZero"], unfollowed := true, recurses := true, named := ["internal/bytealg.MaxLen", "unicode/utf8.first", "unicode/utf8.acceptRanges"], apart := false, laid := [("unicode/utf8.acceptRanges", laid_unicode_utf8_acceptRanges), ("unicode/utf8.first", laid_unicode_utf8_first)] }
def BibFindSaid : Prop := bibFindRow.holds Tryd.pinned (OpenSpec.ofChange bibFindSpec)

/-- ITS FALSE NEIGHBOUR: 'it returns false'. Refute it at one input. -/
def bibFindWrong : ChangeSpec := { name := "bibFind", fn := fun _ => fun
  | [d1, d2] => { results := [.lit (.bool false)], args := [d1, d2] }
  | _ => none }
def BibFindWrongFalsely : Prop := bibFindRow.holds Tryd.pinned (OpenSpec.ofChange bibFindWrong)

/-- 'publisherlaw30.BibTidy': WHATEVER THE INPUT: true; the input reads as it did. -/
def bibTidySpec : ChangeSpec := { name := "bibTidy", fn := fun _ => fun
  | [d] => { results := [.lit (.bool true)], args := [d] }
  | _ => none }
def bibTidyRow : OpenClaim := { program := "ytflpkadknljpbaadoor", sum := "f4d10934e01e38829955ca29c8a82361afe820a7cdf702977938f448736c08aa", func := "publisher/publisherlaw30.BibTidy", spec := "bibTidy", inPlace := ["internal/bytealg.IndexByteString", "internal/bytealg.IndexString", "internal/bytealg.CountString", "internal/abi.NoEscape", "internal/bytealg.MakeNoZero"], unfollowed := true, recurses := true, named := ["internal/bytealg.MaxLen", "unicode/utf8.first", "unicode/utf8.acceptRanges"], apart := false, laid := [("unicode/utf8.acceptRanges", laid_unicode_utf8_acceptRanges), ("unicode/utf8.first", laid_unicode_utf8_first)] }
def BibTidySaid : Prop := bibTidyRow.holds Tryd.pinned (OpenSpec.ofChange bibTidySpec)

/-- ITS FALSE NEIGHBOUR: 'it returns false'. Refute it at one input. -/
def bibTidyWrong : ChangeSpec := { name := "bibTidy", fn := fun _ => fun
  | [d] => { results := [.lit (.bool false)], args := [d] }
  | _ => none }
def BibTidyWrongFalsely : Prop := bibTidyRow.holds Tryd.pinned (OpenSpec.ofChange bibTidyWrong)

/- THE SECOND FORM. 'bulk': how many values and letters a reading holds, each counted each time it is reached (what is shared counts as often as it is met; a slice's spare places count too). A statement '..UptoSaid' is the law's where the arguments, and the package variables that the reading takes, are together of bulk at most 1048576: NARROWER than '..Said'. Prove '..Said' where nothing that the law and all that it calls make is longer than what came in: it says more and counts as full. Else prove '..UptoSaid'. A law counts once. -/
mutual
def uptoBulk {H : Type} : DataW H → Nat
  | .lit (.string bytes) => bytes.length + 1
  | .lit _ => 1
  | .nil => 1
  | .ptr d => uptoBulk d + 1
  | .slice elems spare => uptoBulkAll elems + uptoBulkAll spare + 1
  | .agg parts => uptoBulkAll parts + 1
  | .iface _ d => uptoBulk d + 1
  | .map entries => uptoBulkEntries entries + 1
  | .held _ => 1
def uptoBulkAll {H : Type} : List (DataW H) → Nat
  | [] => 0
  | d :: r => uptoBulk d + uptoBulkAll r
def uptoBulkEntries {H : Type} : List (Lit × DataW H) → Nat
  | [] => 0
  | x :: r => uptoBulkEntry x + uptoBulkEntries r
def uptoBulkEntry {H : Type} : Lit × DataW H → Nat
  | (.string bytes, d) => bytes.length + uptoBulk d + 1
  | (_, d) => uptoBulk d + 1
 end
def uptoSmall : (H : Type) → List (DataW H) → Bool := fun _ ds => decide (uptoBulkAll ds ≤ 1048576)
def OpenSpec.upto (s : _root_.Go.ChangeSpec) : _root_.Go.OpenSpec := { _root_.Go.OpenSpec.ofChange s with cond := some uptoSmall }

/-- 'publisherlaw29.PersonParses', WHERE WHAT IT READS IS OF BULK AT MOST 1048576: true; the input reads as it did. -/
def personParsesUptoRow : OpenClaim := { program := "ytflpkadknljpbaadoor", sum := "f4d10934e01e38829955ca29c8a82361afe820a7cdf702977938f448736c08aa", func := "publisher/publisherlaw29.PersonParses", spec := "personParses", inPlace := ["internal/bytealg.IndexByteString", "internal/bytealg.IndexString", "internal/bytealg.CountString", "internal/abi.NoEscape", "internal/bytealg.MakeNoZero"], named := ["internal/bytealg.MaxLen", "unicode/utf8.first", "unicode/utf8.acceptRanges"], apart := false, laid := [("unicode/utf8.acceptRanges", laid_unicode_utf8_acceptRanges), ("unicode/utf8.first", laid_unicode_utf8_first)], narrowed := true }
def PersonParsesUptoSaid : Prop := personParsesUptoRow.holds Tryd.pinned (OpenSpec.upto personParsesSpec)

/-- 'publisherlaw29.PersonTexts', WHERE WHAT IT READS IS OF BULK AT MOST 1048576: true; the input reads as it did. -/
def personTextsUptoRow : OpenClaim := { program := "ytflpkadknljpbaadoor", sum := "f4d10934e01e38829955ca29c8a82361afe820a7cdf702977938f448736c08aa", func := "publisher/publisherlaw29.PersonTexts", spec := "personTexts", inPlace := ["internal/bytealg.IndexByteString", "internal/bytealg.IndexString", "internal/bytealg.CountString", "internal/abi.NoEscape", "internal/bytealg.MakeNoZero"], named := ["internal/bytealg.MaxLen", "unicode/utf8.first", "unicode/utf8.acceptRanges"], apart := false, laid := [("unicode/utf8.acceptRanges", laid_unicode_utf8_acceptRanges), ("unicode/utf8.first", laid_unicode_utf8_first)], narrowed := true }
def PersonTextsUptoSaid : Prop := personTextsUptoRow.holds Tryd.pinned (OpenSpec.upto personTextsSpec)

/-- 'publisherlaw29.PersonNames', WHERE WHAT IT READS IS OF BULK AT MOST 1048576: true; the input reads as it did. -/
def personNamesUptoRow : OpenClaim := { program := "ytflpkadknljpbaadoor", sum := "f4d10934e01e38829955ca29c8a82361afe820a7cdf702977938f448736c08aa", func := "publisher/publisherlaw29.PersonNames", spec := "personNames", inPlace := ["internal/bytealg.IndexByteString", "internal/bytealg.IndexString", "internal/bytealg.CountString", "internal/abi.NoEscape", "internal/bytealg.MakeNoZero"], recurses := true, named := ["internal/bytealg.MaxLen", "unicode/utf8.first", "unicode/utf8.acceptRanges"], apart := false, laid := [("unicode/utf8.acceptRanges", laid_unicode_utf8_acceptRanges), ("unicode/utf8.first", laid_unicode_utf8_first)], narrowed := true }
def PersonNamesUptoSaid : Prop := personNamesUptoRow.holds Tryd.pinned (OpenSpec.upto personNamesSpec)

/-- 'publisherlaw29.PersonLists', WHERE WHAT IT READS IS OF BULK AT MOST 1048576: true; the input reads as it did. -/
def personListsUptoRow : OpenClaim := { program := "ytflpkadknljpbaadoor", sum := "f4d10934e01e38829955ca29c8a82361afe820a7cdf702977938f448736c08aa", func := "publisher/publisherlaw29.PersonLists", spec := "personLists", inPlace := ["internal/bytealg.IndexByteString", "internal/bytealg.IndexString", "internal/bytealg.CountString", "internal/abi.NoEscape", "internal/bytealg.MakeNoZero"], named := ["internal/bytealg.MaxLen", "unicode/utf8.first", "unicode/utf8.acceptRanges"], apart := false, laid := [("unicode/utf8.acceptRanges", laid_unicode_utf8_acceptRanges), ("unicode/utf8.first", laid_unicode_utf8_first)], narrowed := true }
def PersonListsUptoSaid : Prop := personListsUptoRow.holds Tryd.pinned (OpenSpec.upto personListsSpec)

/-- 'publisherlaw29.PersonReturns', WHERE WHAT IT READS IS OF BULK AT MOST 1048576: true; the input reads as it did. -/
def personReturnsUptoRow : OpenClaim := { program := "ytflpkadknljpbaadoor", sum := "f4d10934e01e38829955ca29c8a82361afe820a7cdf702977938f448736c08aa", func := "publisher/publisherlaw29.PersonReturns", spec := "personReturns", inPlace := ["internal/bytealg.IndexByteString", "internal/bytealg.IndexString", "internal/bytealg.CountString", "internal/abi.NoEscape", "internal/bytealg.MakeNoZero"], named := ["internal/bytealg.MaxLen", "unicode/utf8.first", "unicode/utf8.acceptRanges"], apart := false, laid := [("unicode/utf8.acceptRanges", laid_unicode_utf8_acceptRanges), ("unicode/utf8.first", laid_unicode_utf8_first)], narrowed := true }
def PersonReturnsUptoSaid : Prop := personReturnsUptoRow.holds Tryd.pinned (OpenSpec.upto personReturnsSpec)

/-- 'publisherlaw29.PersonSpaces', WHERE WHAT IT READS IS OF BULK AT MOST 1048576: true; the input reads as it did. -/
def personSpacesUptoRow : OpenClaim := { program := "ytflpkadknljpbaadoor", sum := "f4d10934e01e38829955ca29c8a82361afe820a7cdf702977938f448736c08aa", func := "publisher/publisherlaw29.PersonSpaces", spec := "personSpaces", inPlace := ["internal/bytealg.IndexByteString", "internal/bytealg.IndexString", "internal/bytealg.CountString", "internal/abi.NoEscape", "internal/bytealg.MakeNoZero"], named := ["internal/bytealg.MaxLen", "unicode/utf8.first", "unicode/utf8.acceptRanges"], apart := false, laid := [("unicode/utf8.acceptRanges", laid_unicode_utf8_acceptRanges), ("unicode/utf8.first", laid_unicode_utf8_first)], narrowed := true }
def PersonSpacesUptoSaid : Prop := personSpacesUptoRow.holds Tryd.pinned (OpenSpec.upto personSpacesSpec)

/-- 'publisherlaw29.PersonHolds', WHERE WHAT IT READS IS OF BULK AT MOST 1048576: true; the input reads as it did. -/
def personHoldsUptoRow : OpenClaim := { program := "ytflpkadknljpbaadoor", sum := "f4d10934e01e38829955ca29c8a82361afe820a7cdf702977938f448736c08aa", func := "publisher/publisherlaw29.PersonHolds", spec := "personHolds", inPlace := ["internal/bytealg.IndexByteString", "internal/bytealg.IndexString", "internal/bytealg.CountString", "internal/abi.NoEscape", "internal/bytealg.MakeNoZero"], named := ["internal/bytealg.MaxLen", "unicode/utf8.first", "unicode/utf8.acceptRanges"], apart := false, laid := [("unicode/utf8.acceptRanges", laid_unicode_utf8_acceptRanges), ("unicode/utf8.first", laid_unicode_utf8_first)], narrowed := true }
def PersonHoldsUptoSaid : Prop := personHoldsUptoRow.holds Tryd.pinned (OpenSpec.upto personHoldsSpec)

/-- 'publisherlaw30.BibFind', WHERE WHAT IT READS IS OF BULK AT MOST 1048576: true; the input reads as it did. -/
def bibFindUptoRow : OpenClaim := { program := "ytflpkadknljpbaadoor", sum := "f4d10934e01e38829955ca29c8a82361afe820a7cdf702977938f448736c08aa", func := "publisher/publisherlaw30.BibFind", spec := "bibFind", inPlace := ["internal/bytealg.IndexByteString", "internal/bytealg.IndexString", "internal/bytealg.CountString", "internal/abi.NoEscape", "internal/bytealg.MakeNoZero"], unfollowed := true, recurses := true, named := ["internal/bytealg.MaxLen", "unicode/utf8.first", "unicode/utf8.acceptRanges"], apart := false, laid := [("unicode/utf8.acceptRanges", laid_unicode_utf8_acceptRanges), ("unicode/utf8.first", laid_unicode_utf8_first)], narrowed := true }
def BibFindUptoSaid : Prop := bibFindUptoRow.holds Tryd.pinned (OpenSpec.upto bibFindSpec)

/-- 'publisherlaw30.BibTidy', WHERE WHAT IT READS IS OF BULK AT MOST 1048576: true; the input reads as it did. -/
def bibTidyUptoRow : OpenClaim := { program := "ytflpkadknljpbaadoor", sum := "f4d10934e01e38829955ca29c8a82361afe820a7cdf702977938f448736c08aa", func := "publisher/publisherlaw30.BibTidy", spec := "bibTidy", inPlace := ["internal/bytealg.IndexByteString", "internal/bytealg.IndexString", "internal/bytealg.CountString", "internal/abi.NoEscape", "internal/bytealg.MakeNoZero"], unfollowed := true, recurses := true, named := ["internal/bytealg.MaxLen", "unicode/utf8.first", "unicode/utf8.acceptRanges"], apart := false, laid := [("unicode/utf8.acceptRanges", laid_unicode_utf8_acceptRanges), ("unicode/utf8.first", laid_unicode_utf8_first)], narrowed := true }
def BibTidyUptoSaid : Prop := bibTidyUptoRow.holds Tryd.pinned (OpenSpec.upto bibTidySpec)

end Rows
end Go.Proofs.YtflpkadknljpbaaDoor
