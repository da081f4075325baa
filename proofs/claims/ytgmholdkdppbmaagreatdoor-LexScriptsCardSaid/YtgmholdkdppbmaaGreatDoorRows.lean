/-
  NARROWER THAN 'FOR EVERY INPUT', by the rows' own cells (each row's printed sentence says how): LexAlone: laid · LexEquals: laid · LexNames: laid · LexPieces: laid · LexRows: laid · LexScripts: laid · LexLeaves: laid.
  DERIVED. THE GIVEN ROWS OF THIS SEAT. 7 by the template 'for every input the law returns true; each argument reads behind the call as it read before'; 0 by the template 'total and deterministic' (their statements: YtgmholdkdppbmaaGreatDoorTotals.lean).
  GIVEN WITH THE SEED: the statements are not yours to turn. If you find one false, say at which input.
  Laid BY PROGRAM, IN A SANDBOX (cutbox-rows.mjs): the forced cells as the released guide's own fill.sh prints them over the translation c022b11a969863c2… (all of the seat's roots in one cut). By AI agents, Wed Nov 11 2026. No macro, syntax, notation, axiom, sorry.
-/
import Derived.Test.YtgmholdkdppbmaaGreatDoorChecked
import GoSem.PinnedTables
import GoSem.Claim
import GoSem.ClaimJoined
import GoSem.ClaimMapViews
import Derived.JoinedTies
import Derived.KernelRfl
namespace Go.Proofs.YtgmholdkdppbmaaGreatDoor
/- THE CELL 'sum', in the pinned program and in every row, IS THE sha256 OF THE DUMP (.gsa) THAT YtgmholdkdppbmaaGreatDoorProg.lean LOADS. Nothing in Lean hashes anything: it is a label: what it is worth is what the hold of that sum in a sandbox is worth. -/
noncomputable def Tryz.pinned : Pinned := { name := "ytgmholdkdppbmaagreatdoor", sum := "c022b11a969863c23eb15773aa0ec9464124c8dac65fcaf270287f40aa58ba00", checked := Tryz.checked }
namespace Rows
def none {H : Type} : Left H := { results := [], args := [] }

/- WHAT THE LISTED PACKAGE-LEVEL VARIABLES READ AS WHEN THE CALL BEGINS. Each datum BY PROGRAM (the guide's laid-datum.mjs) off the statement by which the dump's own 'gosem.cut.vars' lays the variable. In a bare row this is a premise. The card (YtgmholdkdppbmaaGreatDoorCards.lean) ties it to the program's text. -/
def laid_unicode_utf8_acceptRanges {H : Type} : DataW H := .agg [.agg [.lit (.int .u8 128), .lit (.int .u8 191)], .agg [.lit (.int .u8 160), .lit (.int .u8 191)], .agg [.lit (.int .u8 128), .lit (.int .u8 159)], .agg [.lit (.int .u8 144), .lit (.int .u8 191)], .agg [.lit (.int .u8 128), .lit (.int .u8 143)], .agg [.lit (.int .u8 0), .lit (.int .u8 0)], .agg [.lit (.int .u8 0), .lit (.int .u8 0)], .agg [.lit (.int .u8 0), .lit (.int .u8 0)], .agg [.lit (.int .u8 0), .lit (.int .u8 0)], .agg [.lit (.int .u8 0), .lit (.int .u8 0)], .agg [.lit (.int .u8 0), .lit (.int .u8 0)], .agg [.lit (.int .u8 0), .lit (.int .u8 0)], .agg [.lit (.int .u8 0), .lit (.int .u8 0)], .agg [.lit (.int .u8 0), .lit (.int .u8 0)], .agg [.lit (.int .u8 0), .lit (.int .u8 0)], .agg [.lit (.int .u8 0), .lit (.int .u8 0)]]
/-- One of Go's own tables, pinned by name: the form's constant. -/
def laid_unicode_utf8_first : DataW Unit := Go.Pinned.utf8First

/-- 'affidavitlaw09.LexAlone': WHATEVER THE INPUT: true; the input reads as it did. -/
def lexAloneSpec : ChangeSpec := { name := "lexAlone", fn := fun _ => fun
  | [d] => { results := [.lit (.bool true)], args := [d] }
  | _ => none }
def lexAloneRow : OpenClaim := { program := "ytgmholdkdppbmaagreatdoor", sum := "c022b11a969863c23eb15773aa0ec9464124c8dac65fcaf270287f40aa58ba00", func := "affidavit/affidavitlaw09.LexAlone", spec := "lexAlone", inPlace := ["internal/bytealg.IndexByteString", "internal/bytealg.IndexString", "math/bits.Add64", "math/bits.Sub64"], unfollowed := true, recurses := true, named := ["unicode/utf8.first", "unicode/utf8.acceptRanges", "internal/bytealg.MaxLen"], apart := false, laid := [("unicode/utf8.acceptRanges", laid_unicode_utf8_acceptRanges), ("unicode/utf8.first", laid_unicode_utf8_first)] }
def LexAloneSaid : Prop := lexAloneRow.holds Tryz.pinned (OpenSpec.ofChange lexAloneSpec)

/-- ITS FALSE NEIGHBOUR: 'it returns false'. Refute it at one input. -/
def lexAloneWrong : ChangeSpec := { name := "lexAlone", fn := fun _ => fun
  | [d] => { results := [.lit (.bool false)], args := [d] }
  | _ => none }
def LexAloneWrongFalsely : Prop := lexAloneRow.holds Tryz.pinned (OpenSpec.ofChange lexAloneWrong)

/-- 'affidavitlaw09.LexEquals': WHATEVER THE INPUT: true; the input reads as it did. -/
def lexEqualsSpec : ChangeSpec := { name := "lexEquals", fn := fun _ => fun
  | [d1, d2] => { results := [.lit (.bool true)], args := [d1, d2] }
  | _ => none }
def lexEqualsRow : OpenClaim := { program := "ytgmholdkdppbmaagreatdoor", sum := "c022b11a969863c23eb15773aa0ec9464124c8dac65fcaf270287f40aa58ba00", func := "affidavit/affidavitlaw09.LexEquals", spec := "lexEquals", inPlace := ["internal/bytealg.IndexByteString", "internal/bytealg.IndexString", "math/bits.Add64", "math/bits.Sub64"], unfollowed := true, recurses := true, named := ["unicode/utf8.first", "unicode/utf8.acceptRanges", "internal/bytealg.MaxLen"], apart := false, laid := [("unicode/utf8.acceptRanges", laid_unicode_utf8_acceptRanges), ("unicode/utf8.first", laid_unicode_utf8_first)] }
def LexEqualsSaid : Prop := lexEqualsRow.holds Tryz.pinned (OpenSpec.ofChange lexEqualsSpec)

/-- ITS FALSE NEIGHBOUR: 'it returns false'. Refute it at one input. -/
def lexEqualsWrong : ChangeSpec := { name := "lexEquals", fn := fun _ => fun
  | [d1, d2] => { results := [.lit (.bool false)], args := [d1, d2] }
  | _ => none }
def LexEqualsWrongFalsely : Prop := lexEqualsRow.holds Tryz.pinned (OpenSpec.ofChange lexEqualsWrong)

/-- 'affidavitlaw09.LexNames': WHATEVER THE INPUT: true; the input reads as it did. -/
def lexNamesSpec : ChangeSpec := { name := "lexNames", fn := fun _ => fun
  | [] => { results := [.lit (.bool true)], args := [] }
  | _ => none }
def lexNamesRow : OpenClaim := { program := "ytgmholdkdppbmaagreatdoor", sum := "c022b11a969863c23eb15773aa0ec9464124c8dac65fcaf270287f40aa58ba00", func := "affidavit/affidavitlaw09.LexNames", spec := "lexNames", inPlace := ["internal/bytealg.IndexByteString", "internal/bytealg.IndexString", "math/bits.Add64", "math/bits.Sub64"], unfollowed := true, recurses := true, named := ["unicode/utf8.first", "unicode/utf8.acceptRanges", "internal/bytealg.MaxLen"], apart := false, laid := [("unicode/utf8.acceptRanges", laid_unicode_utf8_acceptRanges), ("unicode/utf8.first", laid_unicode_utf8_first)] }
def LexNamesSaid : Prop := lexNamesRow.holds Tryz.pinned (OpenSpec.ofChange lexNamesSpec)

/-- ITS FALSE NEIGHBOUR: 'it returns false'. Refute it at one input. -/
def lexNamesWrong : ChangeSpec := { name := "lexNames", fn := fun _ => fun
  | [] => { results := [.lit (.bool false)], args := [] }
  | _ => none }
def LexNamesWrongFalsely : Prop := lexNamesRow.holds Tryz.pinned (OpenSpec.ofChange lexNamesWrong)

/-- 'affidavitlaw09.LexPieces': WHATEVER THE INPUT: true; the input reads as it did. -/
def lexPiecesSpec : ChangeSpec := { name := "lexPieces", fn := fun _ => fun
  | [d1, d2] => { results := [.lit (.bool true)], args := [d1, d2] }
  | _ => none }
def lexPiecesRow : OpenClaim := { program := "ytgmholdkdppbmaagreatdoor", sum := "c022b11a969863c23eb15773aa0ec9464124c8dac65fcaf270287f40aa58ba00", func := "affidavit/affidavitlaw09.LexPieces", spec := "lexPieces", inPlace := ["internal/bytealg.IndexByteString", "internal/bytealg.IndexString", "math/bits.Add64", "math/bits.Sub64", "internal/reflectlite.TypeOf", "math.Float64bits"], unfollowed := true, recurses := true, named := ["unicode/utf8.first", "unicode/utf8.acceptRanges", "internal/bytealg.MaxLen"], apart := false, laid := [("unicode/utf8.acceptRanges", laid_unicode_utf8_acceptRanges), ("unicode/utf8.first", laid_unicode_utf8_first)] }
def LexPiecesSaid : Prop := lexPiecesRow.holds Tryz.pinned (OpenSpec.ofChange lexPiecesSpec)

/-- ITS FALSE NEIGHBOUR: 'it returns false'. Refute it at one input. -/
def lexPiecesWrong : ChangeSpec := { name := "lexPieces", fn := fun _ => fun
  | [d1, d2] => { results := [.lit (.bool false)], args := [d1, d2] }
  | _ => none }
def LexPiecesWrongFalsely : Prop := lexPiecesRow.holds Tryz.pinned (OpenSpec.ofChange lexPiecesWrong)

/-- 'affidavitlaw09.LexRows': WHATEVER THE INPUT: true; the input reads as it did. -/
def lexRowsSpec : ChangeSpec := { name := "lexRows", fn := fun _ => fun
  | [d] => { results := [.lit (.bool true)], args := [d] }
  | _ => none }
def lexRowsRow : OpenClaim := { program := "ytgmholdkdppbmaagreatdoor", sum := "c022b11a969863c23eb15773aa0ec9464124c8dac65fcaf270287f40aa58ba00", func := "affidavit/affidavitlaw09.LexRows", spec := "lexRows", inPlace := ["internal/bytealg.IndexByteString", "internal/bytealg.IndexString", "math/bits.Add64", "math/bits.Sub64", "internal/reflectlite.TypeOf", "math.Float64bits"], unfollowed := true, recurses := true, named := ["unicode/utf8.first", "unicode/utf8.acceptRanges", "internal/bytealg.MaxLen"], apart := false, laid := [("unicode/utf8.acceptRanges", laid_unicode_utf8_acceptRanges), ("unicode/utf8.first", laid_unicode_utf8_first)] }
def LexRowsSaid : Prop := lexRowsRow.holds Tryz.pinned (OpenSpec.ofChange lexRowsSpec)

/-- ITS FALSE NEIGHBOUR: 'it returns false'. Refute it at one input. -/
def lexRowsWrong : ChangeSpec := { name := "lexRows", fn := fun _ => fun
  | [d] => { results := [.lit (.bool false)], args := [d] }
  | _ => none }
def LexRowsWrongFalsely : Prop := lexRowsRow.holds Tryz.pinned (OpenSpec.ofChange lexRowsWrong)

/-- 'affidavitlaw09.LexScripts': WHATEVER THE INPUT: true; the input reads as it did. -/
def lexScriptsSpec : ChangeSpec := { name := "lexScripts", fn := fun _ => fun
  | [d] => { results := [.lit (.bool true)], args := [d] }
  | _ => none }
def lexScriptsRow : OpenClaim := { program := "ytgmholdkdppbmaagreatdoor", sum := "c022b11a969863c23eb15773aa0ec9464124c8dac65fcaf270287f40aa58ba00", func := "affidavit/affidavitlaw09.LexScripts", spec := "lexScripts", inPlace := ["internal/bytealg.IndexByteString", "internal/bytealg.IndexString", "math/bits.Add64", "math/bits.Sub64", "internal/reflectlite.TypeOf", "math.Float64bits"], unfollowed := true, recurses := true, named := ["unicode/utf8.first", "unicode/utf8.acceptRanges", "internal/bytealg.MaxLen"], apart := false, laid := [("unicode/utf8.acceptRanges", laid_unicode_utf8_acceptRanges), ("unicode/utf8.first", laid_unicode_utf8_first)] }
def LexScriptsSaid : Prop := lexScriptsRow.holds Tryz.pinned (OpenSpec.ofChange lexScriptsSpec)

/-- ITS FALSE NEIGHBOUR: 'it returns false'. Refute it at one input. -/
def lexScriptsWrong : ChangeSpec := { name := "lexScripts", fn := fun _ => fun
  | [d] => { results := [.lit (.bool false)], args := [d] }
  | _ => none }
def LexScriptsWrongFalsely : Prop := lexScriptsRow.holds Tryz.pinned (OpenSpec.ofChange lexScriptsWrong)

/-- 'affidavitlaw09.LexLeaves': WHATEVER THE INPUT: true; the input reads as it did. -/
def lexLeavesSpec : ChangeSpec := { name := "lexLeaves", fn := fun _ => fun
  | [d] => { results := [.lit (.bool true)], args := [d] }
  | _ => none }
def lexLeavesRow : OpenClaim := { program := "ytgmholdkdppbmaagreatdoor", sum := "c022b11a969863c23eb15773aa0ec9464124c8dac65fcaf270287f40aa58ba00", func := "affidavit/affidavitlaw09.LexLeaves", spec := "lexLeaves", inPlace := ["internal/bytealg.IndexByteString", "internal/bytealg.IndexString", "math/bits.Add64", "math/bits.Sub64", "internal/reflectlite.TypeOf", "math.Float64bits"], unfollowed := true, recurses := true, named := ["unicode/utf8.first", "unicode/utf8.acceptRanges", "internal/bytealg.MaxLen"], apart := false, laid := [("unicode/utf8.acceptRanges", laid_unicode_utf8_acceptRanges), ("unicode/utf8.first", laid_unicode_utf8_first)] }
def LexLeavesSaid : Prop := lexLeavesRow.holds Tryz.pinned (OpenSpec.ofChange lexLeavesSpec)

/-- ITS FALSE NEIGHBOUR: 'it returns false'. Refute it at one input. -/
def lexLeavesWrong : ChangeSpec := { name := "lexLeaves", fn := fun _ => fun
  | [d] => { results := [.lit (.bool false)], args := [d] }
  | _ => none }
def LexLeavesWrongFalsely : Prop := lexLeavesRow.holds Tryz.pinned (OpenSpec.ofChange lexLeavesWrong)

/- THE SECOND FORM. 'bulk': how many values and letters a reading holds, each counted each time it is reached (what is shared counts as often as it is met; a slice's spare places count too). A statement '..UptoSaid' is the law's where the arguments, and the package variables that the reading takes, are together of bulk at most 1048576: NARROWER than '..Said'. Prove '..Said' where nothing that the law and all that it calls make is longer than what came in: it says more and counts as full. Else prove '..UptoSaid'. A law counts once. -/
mutual
def uptoBulk {H : Type} : DataW H → Nat
  | .lit (.string bytes) => bytes.length + 1
  | .lit _ => 1
  | .nil => 1
  | .ptr d => uptoBulk d + 1
  | .slice elems spare => uptoBulkAll elems + uptoBulkAll spare + 1
  | .agg parts => uptoBulkAll parts + 1
  | .iface _ d => uptoBulk d + 1
  | .map entries => uptoBulkEntries entries + 1
  | .held _ => 1
def uptoBulkAll {H : Type} : List (DataW H) → Nat
  | [] => 0
  | d :: r => uptoBulk d + uptoBulkAll r
def uptoBulkEntries {H : Type} : List (Lit × DataW H) → Nat
  | [] => 0
  | x :: r => uptoBulkEntry x + uptoBulkEntries r
def uptoBulkEntry {H : Type} : Lit × DataW H → Nat
  | (.string bytes, d) => bytes.length + uptoBulk d + 1
  | (_, d) => uptoBulk d + 1
 end
def uptoSmall : (H : Type) → List (DataW H) → Bool := fun _ ds => decide (uptoBulkAll ds ≤ 1048576)
def OpenSpec.upto (s : _root_.Go.ChangeSpec) : _root_.Go.OpenSpec := { _root_.Go.OpenSpec.ofChange s with cond := some uptoSmall }

/-- 'affidavitlaw09.LexAlone', WHERE WHAT IT READS IS OF BULK AT MOST 1048576: true; the input reads as it did. -/
def lexAloneUptoRow : OpenClaim := { program := "ytgmholdkdppbmaagreatdoor", sum := "c022b11a969863c23eb15773aa0ec9464124c8dac65fcaf270287f40aa58ba00", func := "affidavit/affidavitlaw09.LexAlone", spec := "lexAlone", inPlace := ["internal/bytealg.IndexByteString", "internal/bytealg.IndexString", "math/bits.Add64", "math/bits.Sub64"], unfollowed := true, recurses := true, named := ["unicode/utf8.first", "unicode/utf8.acceptRanges", "internal/bytealg.MaxLen"], apart := false, laid := [("unicode/utf8.acceptRanges", laid_unicode_utf8_acceptRanges), ("unicode/utf8.first", laid_unicode_utf8_first)], narrowed := true }
def LexAloneUptoSaid : Prop := lexAloneUptoRow.holds Tryz.pinned (OpenSpec.upto lexAloneSpec)

/-- 'affidavitlaw09.LexEquals', WHERE WHAT IT READS IS OF BULK AT MOST 1048576: true; the input reads as it did. -/
def lexEqualsUptoRow : OpenClaim := { program := "ytgmholdkdppbmaagreatdoor", sum := "c022b11a969863c23eb15773aa0ec9464124c8dac65fcaf270287f40aa58ba00", func := "affidavit/affidavitlaw09.LexEquals", spec := "lexEquals", inPlace := ["internal/bytealg.IndexByteString", "internal/bytealg.IndexString", "math/bits.Add64", "math/bits.Sub64"], unfollowed := true, recurses := true, named := ["unicode/utf8.first", "unicode/utf8.acceptRanges", "internal/bytealg.MaxLen"], apart := false, laid := [("unicode/utf8.acceptRanges", laid_unicode_utf8_acceptRanges), ("unicode/utf8.first", laid_unicode_utf8_first)], narrowed := true }
def LexEqualsUptoSaid : Prop := lexEqualsUptoRow.holds Tryz.pinned (OpenSpec.upto lexEqualsSpec)

/-- 'affidavitlaw09.LexNames', WHERE WHAT IT READS IS OF BULK AT MOST 1048576: true; the input reads as it did. -/
def lexNamesUptoRow : OpenClaim := { program := "ytgmholdkdppbmaagreatdoor", sum := "c022b11a969863c23eb15773aa0ec9464124c8dac65fcaf270287f40aa58ba00", func := "affidavit/affidavitlaw09.LexNames", spec := "lexNames", inPlace := ["internal/bytealg.IndexByteString", "internal/bytealg.IndexString", "math/bits.Add64", "math/bits.Sub64"], unfollowed := true, recurses := true, named := ["unicode/utf8.first", "unicode/utf8.acceptRanges", "internal/bytealg.MaxLen"], apart := false, laid := [("unicode/utf8.acceptRanges", laid_unicode_utf8_acceptRanges), ("unicode/utf8.first", laid_unicode_utf8_first)], narrowed := true }
def LexNamesUptoSaid : Prop := lexNamesUptoRow.holds Tryz.pinned (OpenSpec.upto lexNamesSpec)

/-- 'affidavitlaw09.LexPieces', WHERE WHAT IT READS IS OF BULK AT MOST 1048576: true; the input reads as it did. -/
def lexPiecesUptoRow : OpenClaim := { program := "ytgmholdkdppbmaagreatdoor", sum := "c022b11a969863c23eb15773aa0ec9464124c8dac65fcaf270287f40aa58ba00", func := "affidavit/affidavitlaw09.LexPieces", spec := "lexPieces", inPlace := ["internal/bytealg.IndexByteString", "internal/bytealg.IndexString", "math/bits.Add64", "math/bits.Sub64", "internal/reflectlite.TypeOf", "math.Float64bits"], unfollowed := true, recurses := true, named := ["unicode/utf8.first", "unicode/utf8.acceptRanges", "internal/bytealg.MaxLen"], apart := false, laid := [("unicode/utf8.acceptRanges", laid_unicode_utf8_acceptRanges), ("unicode/utf8.first", laid_unicode_utf8_first)], narrowed := true }
def LexPiecesUptoSaid : Prop := lexPiecesUptoRow.holds Tryz.pinned (OpenSpec.upto lexPiecesSpec)

/-- 'affidavitlaw09.LexRows', WHERE WHAT IT READS IS OF BULK AT MOST 1048576: true; the input reads as it did. -/
def lexRowsUptoRow : OpenClaim := { program := "ytgmholdkdppbmaagreatdoor", sum := "c022b11a969863c23eb15773aa0ec9464124c8dac65fcaf270287f40aa58ba00", func := "affidavit/affidavitlaw09.LexRows", spec := "lexRows", inPlace := ["internal/bytealg.IndexByteString", "internal/bytealg.IndexString", "math/bits.Add64", "math/bits.Sub64", "internal/reflectlite.TypeOf", "math.Float64bits"], unfollowed := true, recurses := true, named := ["unicode/utf8.first", "unicode/utf8.acceptRanges", "internal/bytealg.MaxLen"], apart := false, laid := [("unicode/utf8.acceptRanges", laid_unicode_utf8_acceptRanges), ("unicode/utf8.first", laid_unicode_utf8_first)], narrowed := true }
def LexRowsUptoSaid : Prop := lexRowsUptoRow.holds Tryz.pinned (OpenSpec.upto lexRowsSpec)

/-- 'affidavitlaw09.LexScripts', WHERE WHAT IT READS IS OF BULK AT MOST 1048576: true; the input reads as it did. -/
def lexScriptsUptoRow : OpenClaim := { program := "ytgmholdkdppbmaagreatdoor", sum := "c022b11a969863c23eb15773aa0ec9464124c8dac65fcaf270287f40aa58ba00", func := "affidavit/affidavitlaw09.LexScripts", spec := "lexScripts", inPlace := ["internal/bytealg.IndexByteString", "internal/bytealg.IndexString", "math/bits.Add64", "math/bits.Sub64", "internal/reflectlite.TypeOf", "math.Float64bits"], unfollowed := true, recurses := true, named := ["unicode/utf8.first", "unicode/utf8.acceptRanges", "internal/bytealg.MaxLen"], apart := false, laid := [("unicode/utf8.acceptRanges", laid_unicode_utf8_acceptRanges), ("unicode/utf8.first", laid_unicode_utf8_first)], narrowed := true }
def LexScriptsUptoSaid : Prop := lexScriptsUptoRow.holds Tryz.pinned (OpenSpec.upto lexScriptsSpec)

/-- 'affidavitlaw09.LexLeaves', WHERE WHAT IT READS IS OF BULK AT MOST 1048576: true; the input reads as it did. -/
def lexLeavesUptoRow : OpenClaim := { program := "ytgmholdkdppbmaagreatdoor", sum := "c022b11a969863c23eb15773aa0ec9464124c8dac65fcaf270287f40aa58ba00", func := "affidavit/affidavitlaw09.LexLeaves", spec := "lexLeaves", inPlace := ["internal/bytealg.IndexByteString", "internal/bytealg.IndexString", "math/bits.Add64", "math/bits.Sub64", "internal/reflectlite.TypeOf", "math.Float64bits"], unfollowed := true, recurses := true, named := ["unicode/utf8.first", "unicode/utf8.acceptRanges", "internal/bytealg.MaxLen"], apart := false, laid := [("unicode/utf8.acceptRanges", laid_unicode_utf8_acceptRanges), ("unicode/utf8.first", laid_unicode_utf8_first)], narrowed := true }
def LexLeavesUptoSaid : Prop := lexLeavesUptoRow.holds Tryz.pinned (OpenSpec.upto lexLeavesSpec)

end Rows
end Go.Proofs.YtgmholdkdppbmaaGreatDoor
