/-
  NARROWER THAN 'FOR EVERY INPUT', by the rows' own cells (each row's printed sentence says how): BibParse: laid · BibPersons: laid · CollateChecks: laid · CollateParses: laid · CollateBack: laid · CollateCompares: laid · CollateSorts: laid · CollateInitials: laid.
  DERIVED. THE GIVEN ROWS OF THIS SEAT. 8 by the template 'for every input the law returns true; each argument reads behind the call as it read before'; 0 by the template 'total and deterministic' (their statements: YteflhlbgbgamnaaGreatDoorTotals.lean).
  GIVEN WITH THE SEED: the statements are not yours to turn. If you find one false, say at which input.
  Laid BY PROGRAM, IN A SANDBOX (cutbox-rows.mjs): the forced cells as the released guide's own fill.sh prints them over the translation 93fbc01ac5bd8b50… (all of the seat's roots in one cut). By AI agents, Wed Nov 11 2026. No macro, syntax, notation, axiom, sorry.
-/
import Derived.Test.YteflhlbgbgamnaaGreatDoorChecked
import GoSem.PinnedTables
import GoSem.Claim
import GoSem.ClaimJoined
import GoSem.ClaimMapViews
import Derived.JoinedTies
import Derived.KernelRfl
namespace Go.Proofs.YteflhlbgbgamnaaGreatDoor
/- THE CELL 'sum', in the pinned program and in every row, IS THE sha256 OF THE DUMP (.gsa) THAT YteflhlbgbgamnaaGreatDoorProg.lean LOADS. Nothing in Lean hashes anything: it is a label: what it is worth is what the hold of that sum in a sandbox is worth. -/
noncomputable def Tryz.pinned : Pinned := { name := "yteflhlbgbgamnaagreatdoor", sum := "93fbc01ac5bd8b504a2431ad11aca73479a0fc6ae009bbcbd6f902c34c618371", checked := Tryz.checked }
namespace Rows
def none {H : Type} : Left H := { results := [], args := [] }

/- WHAT THE LISTED PACKAGE-LEVEL VARIABLES READ AS WHEN THE CALL BEGINS. Each datum BY PROGRAM (the guide's laid-datum.mjs) off the statement by which the dump's own 'gosem.cut.vars' lays the variable. In a bare row this is a premise. The card (YteflhlbgbgamnaaGreatDoorCards.lean) ties it to the program's text. -/
def laid_unicode_utf8_acceptRanges {H : Type} : DataW H := .agg [.agg [.lit (.int .u8 128), .lit (.int .u8 191)], .agg [.lit (.int .u8 160), .lit (.int .u8 191)], .agg [.lit (.int .u8 128), .lit (.int .u8 159)], .agg [.lit (.int .u8 144), .lit (.int .u8 191)], .agg [.lit (.int .u8 128), .lit (.int .u8 143)], .agg [.lit (.int .u8 0), .lit (.int .u8 0)], .agg [.lit (.int .u8 0), .lit (.int .u8 0)], .agg [.lit (.int .u8 0), .lit (.int .u8 0)], .agg [.lit (.int .u8 0), .lit (.int .u8 0)], .agg [.lit (.int .u8 0), .lit (.int .u8 0)], .agg [.lit (.int .u8 0), .lit (.int .u8 0)], .agg [.lit (.int .u8 0), .lit (.int .u8 0)], .agg [.lit (.int .u8 0), .lit (.int .u8 0)], .agg [.lit (.int .u8 0), .lit (.int .u8 0)], .agg [.lit (.int .u8 0), .lit (.int .u8 0)], .agg [.lit (.int .u8 0), .lit (.int .u8 0)]]
/-- One of Go's own tables, pinned by name: the form's constant. -/
def laid_unicode_utf8_first : DataW Unit := Go.Pinned.utf8First

/-- 'publisherlaw30.BibParse': WHATEVER THE INPUT: true; the input reads as it did. -/
def bibParseSpec : ChangeSpec := { name := "bibParse", fn := fun _ => fun
  | [d] => { results := [.lit (.bool true)], args := [d] }
  | _ => none }
def bibParseRow : OpenClaim := { program := "yteflhlbgbgamnaagreatdoor", sum := "93fbc01ac5bd8b504a2431ad11aca73479a0fc6ae009bbcbd6f902c34c618371", func := "publisher/publisherlaw30.BibParse", spec := "bibParse", inPlace := ["internal/bytealg.IndexByteString", "internal/bytealg.IndexString", "internal/bytealg.CountString", "internal/abi.NoEscape", "internal/bytealg.MakeNoZero"], unfollowed := true, recurses := true, named := ["internal/bytealg.MaxLen", "unicode/utf8.first", "unicode/utf8.acceptRanges"], apart := false, laid := [("unicode/utf8.acceptRanges", laid_unicode_utf8_acceptRanges), ("unicode/utf8.first", laid_unicode_utf8_first)] }
def BibParseSaid : Prop := bibParseRow.holds Tryz.pinned (OpenSpec.ofChange bibParseSpec)

/-- ITS FALSE NEIGHBOUR: 'it returns false'. Refute it at one input. -/
def bibParseWrong : ChangeSpec := { name := "bibParse", fn := fun _ => fun
  | [d] => { results := [.lit (.bool false)], args := [d] }
  | _ => none }
def BibParseWrongFalsely : Prop := bibParseRow.holds Tryz.pinned (OpenSpec.ofChange bibParseWrong)

/-- 'publisherlaw30.BibPersons': WHATEVER THE INPUT: true; the input reads as it did. -/
def bibPersonsSpec : ChangeSpec := { name := "bibPersons", fn := fun _ => fun
  | [d] => { results := [.lit (.bool true)], args := [d] }
  | _ => none }
def bibPersonsRow : OpenClaim := { program := "yteflhlbgbgamnaagreatdoor", sum := "93fbc01ac5bd8b504a2431ad11aca73479a0fc6ae009bbcbd6f902c34c618371", func := "publisher/publisherlaw30.BibPersons", spec := "bibPersons", inPlace := ["internal/bytealg.IndexByteString", "internal/bytealg.IndexString", "internal/bytealg.CountString", "internal/abi.NoEscape", "internal/bytealg.MakeNoZero"], unfollowed := true, recurses := true, named := ["internal/bytealg.MaxLen", "unicode/utf8.first", "unicode/utf8.acceptRanges"], apart := false, laid := [("unicode/utf8.acceptRanges", laid_unicode_utf8_acceptRanges), ("unicode/utf8.first", laid_unicode_utf8_first)] }
def BibPersonsSaid : Prop := bibPersonsRow.holds Tryz.pinned (OpenSpec.ofChange bibPersonsSpec)

/-- ITS FALSE NEIGHBOUR: 'it returns false'. Refute it at one input. -/
def bibPersonsWrong : ChangeSpec := { name := "bibPersons", fn := fun _ => fun
  | [d] => { results := [.lit (.bool false)], args := [d] }
  | _ => none }
def BibPersonsWrongFalsely : Prop := bibPersonsRow.holds Tryz.pinned (OpenSpec.ofChange bibPersonsWrong)

/-- 'publisherlaw25.CollateChecks': WHATEVER THE INPUT: true; the input reads as it did. -/
def collateChecksSpec : ChangeSpec := { name := "collateChecks", fn := fun _ => fun
  | [d] => { results := [.lit (.bool true)], args := [d] }
  | _ => none }
def collateChecksRow : OpenClaim := { program := "yteflhlbgbgamnaagreatdoor", sum := "93fbc01ac5bd8b504a2431ad11aca73479a0fc6ae009bbcbd6f902c34c618371", func := "publisher/publisherlaw25.CollateChecks", spec := "collateChecks", inPlace := ["internal/bytealg.CountString", "internal/bytealg.IndexByteString", "internal/bytealg.IndexString", "internal/abi.NoEscape", "internal/bytealg.MakeNoZero", "internal/bytealg.abigen_runtime_cmpstring"], unfollowed := true, recurses := true, named := ["unicode/utf8.first", "unicode/utf8.acceptRanges", "internal/bytealg.MaxLen"], apart := false, laid := [("unicode/utf8.acceptRanges", laid_unicode_utf8_acceptRanges), ("unicode/utf8.first", laid_unicode_utf8_first)] }
def CollateChecksSaid : Prop := collateChecksRow.holds Tryz.pinned (OpenSpec.ofChange collateChecksSpec)

/-- ITS FALSE NEIGHBOUR: 'it returns false'. Refute it at one input. -/
def collateChecksWrong : ChangeSpec := { name := "collateChecks", fn := fun _ => fun
  | [d] => { results := [.lit (.bool false)], args := [d] }
  | _ => none }
def CollateChecksWrongFalsely : Prop := collateChecksRow.holds Tryz.pinned (OpenSpec.ofChange collateChecksWrong)

/-- 'publisherlaw25.CollateParses': WHATEVER THE INPUT: true; the input reads as it did. -/
def collateParsesSpec : ChangeSpec := { name := "collateParses", fn := fun _ => fun
  | [d] => { results := [.lit (.bool true)], args := [d] }
  | _ => none }
def collateParsesRow : OpenClaim := { program := "yteflhlbgbgamnaagreatdoor", sum := "93fbc01ac5bd8b504a2431ad11aca73479a0fc6ae009bbcbd6f902c34c618371", func := "publisher/publisherlaw25.CollateParses", spec := "collateParses", inPlace := ["internal/bytealg.CountString", "internal/bytealg.IndexByteString", "internal/bytealg.IndexString", "internal/abi.NoEscape", "internal/bytealg.MakeNoZero", "internal/bytealg.abigen_runtime_cmpstring"], unfollowed := true, recurses := true, named := ["unicode/utf8.first", "unicode/utf8.acceptRanges", "internal/bytealg.MaxLen"], apart := false, laid := [("unicode/utf8.acceptRanges", laid_unicode_utf8_acceptRanges), ("unicode/utf8.first", laid_unicode_utf8_first)] }
def CollateParsesSaid : Prop := collateParsesRow.holds Tryz.pinned (OpenSpec.ofChange collateParsesSpec)

/-- ITS FALSE NEIGHBOUR: 'it returns false'. Refute it at one input. -/
def collateParsesWrong : ChangeSpec := { name := "collateParses", fn := fun _ => fun
  | [d] => { results := [.lit (.bool false)], args := [d] }
  | _ => none }
def CollateParsesWrongFalsely : Prop := collateParsesRow.holds Tryz.pinned (OpenSpec.ofChange collateParsesWrong)

/-- 'publisherlaw25.CollateBack': WHATEVER THE INPUT: true; the input reads as it did. -/
def collateBackSpec : ChangeSpec := { name := "collateBack", fn := fun _ => fun
  | [d] => { results := [.lit (.bool true)], args := [d] }
  | _ => none }
def collateBackRow : OpenClaim := { program := "yteflhlbgbgamnaagreatdoor", sum := "93fbc01ac5bd8b504a2431ad11aca73479a0fc6ae009bbcbd6f902c34c618371", func := "publisher/publisherlaw25.CollateBack", spec := "collateBack", inPlace := ["internal/bytealg.CountString", "internal/bytealg.IndexByteString", "internal/bytealg.IndexString", "internal/abi.NoEscape", "internal/bytealg.MakeNoZero", "internal/bytealg.abigen_runtime_cmpstring"], unfollowed := true, recurses := true, named := ["unicode/utf8.first", "unicode/utf8.acceptRanges", "internal/bytealg.MaxLen"], apart := false, laid := [("unicode/utf8.acceptRanges", laid_unicode_utf8_acceptRanges), ("unicode/utf8.first", laid_unicode_utf8_first)] }
def CollateBackSaid : Prop := collateBackRow.holds Tryz.pinned (OpenSpec.ofChange collateBackSpec)

/-- ITS FALSE NEIGHBOUR: 'it returns false'. Refute it at one input. -/
def collateBackWrong : ChangeSpec := { name := "collateBack", fn := fun _ => fun
  | [d] => { results := [.lit (.bool false)], args := [d] }
  | _ => none }
def CollateBackWrongFalsely : Prop := collateBackRow.holds Tryz.pinned (OpenSpec.ofChange collateBackWrong)

/-- 'publisherlaw25.CollateCompares': WHATEVER THE INPUT: true; the input reads as it did. -/
def collateComparesSpec : ChangeSpec := { name := "collateCompares", fn := fun _ => fun
  | [d1, d2] => { results := [.lit (.bool true)], args := [d1, d2] }
  | _ => none }
def collateComparesRow : OpenClaim := { program := "yteflhlbgbgamnaagreatdoor", sum := "93fbc01ac5bd8b504a2431ad11aca73479a0fc6ae009bbcbd6f902c34c618371", func := "publisher/publisherlaw25.CollateCompares", spec := "collateCompares", inPlace := ["internal/bytealg.CountString", "internal/bytealg.IndexByteString", "internal/bytealg.IndexString", "internal/abi.NoEscape", "internal/bytealg.MakeNoZero", "internal/bytealg.abigen_runtime_cmpstring"], unfollowed := true, recurses := true, named := ["unicode/utf8.first", "unicode/utf8.acceptRanges", "internal/bytealg.MaxLen"], apart := false, laid := [("unicode/utf8.acceptRanges", laid_unicode_utf8_acceptRanges), ("unicode/utf8.first", laid_unicode_utf8_first)] }
def CollateComparesSaid : Prop := collateComparesRow.holds Tryz.pinned (OpenSpec.ofChange collateComparesSpec)

/-- ITS FALSE NEIGHBOUR: 'it returns false'. Refute it at one input. -/
def collateComparesWrong : ChangeSpec := { name := "collateCompares", fn := fun _ => fun
  | [d1, d2] => { results := [.lit (.bool false)], args := [d1, d2] }
  | _ => none }
def CollateComparesWrongFalsely : Prop := collateComparesRow.holds Tryz.pinned (OpenSpec.ofChange collateComparesWrong)

/-- 'publisherlaw25.CollateSorts': WHATEVER THE INPUT: true; the input reads as it did. -/
def collateSortsSpec : ChangeSpec := { name := "collateSorts", fn := fun _ => fun
  | [d1, d2] => { results := [.lit (.bool true)], args := [d1, d2] }
  | _ => none }
def collateSortsRow : OpenClaim := { program := "yteflhlbgbgamnaagreatdoor", sum := "93fbc01ac5bd8b504a2431ad11aca73479a0fc6ae009bbcbd6f902c34c618371", func := "publisher/publisherlaw25.CollateSorts", spec := "collateSorts", inPlace := ["internal/bytealg.CountString", "internal/bytealg.IndexByteString", "internal/bytealg.IndexString", "internal/abi.NoEscape", "internal/bytealg.MakeNoZero", "internal/bytealg.abigen_runtime_cmpstring"], unfollowed := true, recurses := true, named := ["unicode/utf8.first", "unicode/utf8.acceptRanges", "internal/bytealg.MaxLen"], apart := false, laid := [("unicode/utf8.acceptRanges", laid_unicode_utf8_acceptRanges), ("unicode/utf8.first", laid_unicode_utf8_first)] }
def CollateSortsSaid : Prop := collateSortsRow.holds Tryz.pinned (OpenSpec.ofChange collateSortsSpec)

/-- ITS FALSE NEIGHBOUR: 'it returns false'. Refute it at one input. -/
def collateSortsWrong : ChangeSpec := { name := "collateSorts", fn := fun _ => fun
  | [d1, d2] => { results := [.lit (.bool false)], args := [d1, d2] }
  | _ => none }
def CollateSortsWrongFalsely : Prop := collateSortsRow.holds Tryz.pinned (OpenSpec.ofChange collateSortsWrong)

/-- 'publisherlaw25.CollateInitials': WHATEVER THE INPUT: true; the input reads as it did. -/
def collateInitialsSpec : ChangeSpec := { name := "collateInitials", fn := fun _ => fun
  | [d1, d2] => { results := [.lit (.bool true)], args := [d1, d2] }
  | _ => none }
def collateInitialsRow : OpenClaim := { program := "yteflhlbgbgamnaagreatdoor", sum := "93fbc01ac5bd8b504a2431ad11aca73479a0fc6ae009bbcbd6f902c34c618371", func := "publisher/publisherlaw25.CollateInitials", spec := "collateInitials", inPlace := ["internal/bytealg.CountString", "internal/bytealg.IndexByteString", "internal/bytealg.IndexString", "internal/abi.NoEscape", "internal/bytealg.MakeNoZero", "internal/bytealg.abigen_runtime_cmpstring"], unfollowed := true, recurses := true, named := ["unicode/utf8.first", "unicode/utf8.acceptRanges", "internal/bytealg.MaxLen"], apart := false, laid := [("unicode/utf8.acceptRanges", laid_unicode_utf8_acceptRanges), ("unicode/utf8.first", laid_unicode_utf8_first)] }
def CollateInitialsSaid : Prop := collateInitialsRow.holds Tryz.pinned (OpenSpec.ofChange collateInitialsSpec)

/-- ITS FALSE NEIGHBOUR: 'it returns false'. Refute it at one input. -/
def collateInitialsWrong : ChangeSpec := { name := "collateInitials", fn := fun _ => fun
  | [d1, d2] => { results := [.lit (.bool false)], args := [d1, d2] }
  | _ => none }
def CollateInitialsWrongFalsely : Prop := collateInitialsRow.holds Tryz.pinned (OpenSpec.ofChange collateInitialsWrong)

/- THE SECOND FORM. 'bulk': how many values and letters a reading holds, each counted each time it is reached (what is shared counts as often as it is met; a slice's spare places count too). A statement '..UptoSaid' is the law's where the arguments, and the package variables that the reading takes, are together of bulk at most 1048576: NARROWER than '..Said'. Prove '..Said' where nothing that the law and all that it calls make is longer than what came in: it says more and counts as full. Else prove '..UptoSaid'. A law counts once. -/
mutual
def uptoBulk {H : Type} : DataW H → Nat
  | .lit (.string bytes) => bytes.length + 1
  | .lit _ => 1
  | .nil => 1
  | .ptr d => uptoBulk d + 1
  | .slice elems spare => uptoBulkAll elems + uptoBulkAll spare + 1
  | .agg parts => uptoBulkAll parts + 1
  | .iface _ d => uptoBulk d + 1
  | .map entries => uptoBulkEntries entries + 1
  | .held _ => 1
def uptoBulkAll {H : Type} : List (DataW H) → Nat
  | [] => 0
  | d :: r => uptoBulk d + uptoBulkAll r
def uptoBulkEntries {H : Type} : List (Lit × DataW H) → Nat
  | [] => 0
  | x :: r => uptoBulkEntry x + uptoBulkEntries r
def uptoBulkEntry {H : Type} : Lit × DataW H → Nat
  | (.string bytes, d) => bytes.length + uptoBulk d + 1
  | (_, d) => uptoBulk d + 1
 end
def uptoSmall : (H : Type) → List (DataW H) → Bool := fun _ ds => decide (uptoBulkAll ds ≤ 1048576)
def OpenSpec.upto (s : _root_.Go.ChangeSpec) : _root_.Go.OpenSpec := { _root_.Go.OpenSpec.ofChange s with cond := some uptoSmall }

/-- 'publisherlaw30.BibParse', WHERE WHAT IT READS IS OF BULK AT MOST 1048576: true; the input reads as it did. -/
def bibParseUptoRow : OpenClaim := { program := "yteflhlbgbgamnaagreatdoor", sum := "93fbc01ac5bd8b504a2431ad11aca73479a0fc6ae009bbcbd6f902c34c618371", func := "publisher/publisherlaw30.BibParse", spec := "bibParse", inPlace := ["internal/bytealg.IndexByteString", "internal/bytealg.IndexString", "internal/bytealg.CountString", "internal/abi.NoEscape", "internal/bytealg.MakeNoZero"], unfollowed := true, recurses := true, named := ["internal/bytealg.MaxLen", "unicode/utf8.first", "unicode/utf8.acceptRanges"], apart := false, laid := [("unicode/utf8.acceptRanges", laid_unicode_utf8_acceptRanges), ("unicode/utf8.first", laid_unicode_utf8_first)], narrowed := true }
def BibParseUptoSaid : Prop := bibParseUptoRow.holds Tryz.pinned (OpenSpec.upto bibParseSpec)

/-- 'publisherlaw30.BibPersons', WHERE WHAT IT READS IS OF BULK AT MOST 1048576: true; the input reads as it did. -/
def bibPersonsUptoRow : OpenClaim := { program := "yteflhlbgbgamnaagreatdoor", sum := "93fbc01ac5bd8b504a2431ad11aca73479a0fc6ae009bbcbd6f902c34c618371", func := "publisher/publisherlaw30.BibPersons", spec := "bibPersons", inPlace := ["internal/bytealg.IndexByteString", "internal/bytealg.IndexString", "internal/bytealg.CountString", "internal/abi.NoEscape", "internal/bytealg.MakeNoZero"], unfollowed := true, recurses := true, named := ["internal/bytealg.MaxLen", "unicode/utf8.first", "unicode/utf8.acceptRanges"], apart := false, laid := [("unicode/utf8.acceptRanges", laid_unicode_utf8_acceptRanges), ("unicode/utf8.first", laid_unicode_utf8_first)], narrowed := true }
def BibPersonsUptoSaid : Prop := bibPersonsUptoRow.holds Tryz.pinned (OpenSpec.upto bibPersonsSpec)

/-- 'publisherlaw25.CollateChecks', WHERE WHAT IT READS IS OF BULK AT MOST 1048576: true; the input reads as it did. -/
def collateChecksUptoRow : OpenClaim := { program := "yteflhlbgbgamnaagreatdoor", sum := "93fbc01ac5bd8b504a2431ad11aca73479a0fc6ae009bbcbd6f902c34c618371", func := "publisher/publisherlaw25.CollateChecks", spec := "collateChecks", inPlace := ["internal/bytealg.CountString", "internal/bytealg.IndexByteString", "internal/bytealg.IndexString", "internal/abi.NoEscape", "internal/bytealg.MakeNoZero", "internal/bytealg.abigen_runtime_cmpstring"], unfollowed := true, recurses := true, named := ["unicode/utf8.first", "unicode/utf8.acceptRanges", "internal/bytealg.MaxLen"], apart := false, laid := [("unicode/utf8.acceptRanges", laid_unicode_utf8_acceptRanges), ("unicode/utf8.first", laid_unicode_utf8_first)], narrowed := true }
def CollateChecksUptoSaid : Prop := collateChecksUptoRow.holds Tryz.pinned (OpenSpec.upto collateChecksSpec)

/-- 'publisherlaw25.CollateParses', WHERE WHAT IT READS IS OF BULK AT MOST 1048576: true; the input reads as it did. -/
def collateParsesUptoRow : OpenClaim := { program := "yteflhlbgbgamnaagreatdoor", sum := "93fbc01ac5bd8b504a2431ad11aca73479a0fc6ae009bbcbd6f902c34c618371", func := "publisher/publisherlaw25.CollateParses", spec := "collateParses", inPlace := ["internal/bytealg.CountString", "internal/bytealg.IndexByteString", "internal/bytealg.IndexString", "internal/abi.NoEscape", "internal/bytealg.MakeNoZero", "internal/bytealg.abigen_runtime_cmpstring"], unfollowed := true, recurses := true, named := ["unicode/utf8.first", "unicode/utf8.acceptRanges", "internal/bytealg.MaxLen"], apart := false, laid := [("unicode/utf8.acceptRanges", laid_unicode_utf8_acceptRanges), ("unicode/utf8.first", laid_unicode_utf8_first)], narrowed := true }
def CollateParsesUptoSaid : Prop := collateParsesUptoRow.holds Tryz.pinned (OpenSpec.upto collateParsesSpec)

/-- 'publisherlaw25.CollateBack', WHERE WHAT IT READS IS OF BULK AT MOST 1048576: true; the input reads as it did. -/
def collateBackUptoRow : OpenClaim := { program := "yteflhlbgbgamnaagreatdoor", sum := "93fbc01ac5bd8b504a2431ad11aca73479a0fc6ae009bbcbd6f902c34c618371", func := "publisher/publisherlaw25.CollateBack", spec := "collateBack", inPlace := ["internal/bytealg.CountString", "internal/bytealg.IndexByteString", "internal/bytealg.IndexString", "internal/abi.NoEscape", "internal/bytealg.MakeNoZero", "internal/bytealg.abigen_runtime_cmpstring"], unfollowed := true, recurses := true, named := ["unicode/utf8.first", "unicode/utf8.acceptRanges", "internal/bytealg.MaxLen"], apart := false, laid := [("unicode/utf8.acceptRanges", laid_unicode_utf8_acceptRanges), ("unicode/utf8.first", laid_unicode_utf8_first)], narrowed := true }
def CollateBackUptoSaid : Prop := collateBackUptoRow.holds Tryz.pinned (OpenSpec.upto collateBackSpec)

/-- 'publisherlaw25.CollateCompares', WHERE WHAT IT READS IS OF BULK AT MOST 1048576: true; the input reads as it did. -/
def collateComparesUptoRow : OpenClaim := { program := "yteflhlbgbgamnaagreatdoor", sum := "93fbc01ac5bd8b504a2431ad11aca73479a0fc6ae009bbcbd6f902c34c618371", func := "publisher/publisherlaw25.CollateCompares", spec := "collateCompares", inPlace := ["internal/bytealg.CountString", "internal/bytealg.IndexByteString", "internal/bytealg.IndexString", "internal/abi.NoEscape", "internal/bytealg.MakeNoZero", "internal/bytealg.abigen_runtime_cmpstring"], unfollowed := true, recurses := true, named := ["unicode/utf8.first", "unicode/utf8.acceptRanges", "internal/bytealg.MaxLen"], apart := false, laid := [("unicode/utf8.acceptRanges", laid_unicode_utf8_acceptRanges), ("unicode/utf8.first", laid_unicode_utf8_first)], narrowed := true }
def CollateComparesUptoSaid : Prop := collateComparesUptoRow.holds Tryz.pinned (OpenSpec.upto collateComparesSpec)

/-- 'publisherlaw25.CollateSorts', WHERE WHAT IT READS IS OF BULK AT MOST 1048576: true; the input reads as it did. -/
def collateSortsUptoRow : OpenClaim := { program := "yteflhlbgbgamnaagreatdoor", sum := "93fbc01ac5bd8b504a2431ad11aca73479a0fc6ae009bbcbd6f902c34c618371", func := "publisher/publisherlaw25.CollateSorts", spec := "collateSorts", inPlace := ["internal/bytealg.CountString", "internal/bytealg.IndexByteString", "internal/bytealg.IndexString", "internal/abi.NoEscape", "internal/bytealg.MakeNoZero", "internal/bytealg.abigen_runtime_cmpstring"], unfollowed := true, recurses := true, named := ["unicode/utf8.first", "unicode/utf8.acceptRanges", "internal/bytealg.MaxLen"], apart := false, laid := [("unicode/utf8.acceptRanges", laid_unicode_utf8_acceptRanges), ("unicode/utf8.first", laid_unicode_utf8_first)], narrowed := true }
def CollateSortsUptoSaid : Prop := collateSortsUptoRow.holds Tryz.pinned (OpenSpec.upto collateSortsSpec)

/-- 'publisherlaw25.CollateInitials', WHERE WHAT IT READS IS OF BULK AT MOST 1048576: true; the input reads as it did. -/
def collateInitialsUptoRow : OpenClaim := { program := "yteflhlbgbgamnaagreatdoor", sum := "93fbc01ac5bd8b504a2431ad11aca73479a0fc6ae009bbcbd6f902c34c618371", func := "publisher/publisherlaw25.CollateInitials", spec := "collateInitials", inPlace := ["internal/bytealg.CountString", "internal/bytealg.IndexByteString", "internal/bytealg.IndexString", "internal/abi.NoEscape", "internal/bytealg.MakeNoZero", "internal/bytealg.abigen_runtime_cmpstring"], unfollowed := true, recurses := true, named := ["unicode/utf8.first", "unicode/utf8.acceptRanges", "internal/bytealg.MaxLen"], apart := false, laid := [("unicode/utf8.acceptRanges", laid_unicode_utf8_acceptRanges), ("unicode/utf8.first", laid_unicode_utf8_first)], narrowed := true }
def CollateInitialsUptoSaid : Prop := collateInitialsUptoRow.holds Tryz.pinned (OpenSpec.upto collateInitialsSpec)

end Rows
end Go.Proofs.YteflhlbgbgamnaaGreatDoor
