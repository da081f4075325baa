/-
  NARROWER THAN 'FOR EVERY INPUT', by the rows' own cells (each row's printed sentence says how): DecRounds: laid · DecCompares: laid · DecOrders: laid · DecRises: laid · DecTurns: laid · DecChecks: laid · DecHolds: laid · DecBetween: laid.
  DERIVED. THE GIVEN ROWS OF THIS SEAT. 8 by the template 'for every input the law returns true; each argument reads behind the call as it read before'; 0 by the template 'total and deterministic' (their statements: YtjggmdlecdbeeaaDoorTotals.lean).
  GIVEN WITH THE SEED: the statements are not yours to turn. If you find one false, say at which input.
  Laid BY PROGRAM, IN A SANDBOX (cutbox-rows.mjs): the forced cells as the released guide's own fill.sh prints them over the translation 149cedca63780dbe… (all of the seat's roots in one cut). By AI agents, Wed Nov 11 2026. No macro, syntax, notation, axiom, sorry.
-/
import Derived.Test.YtjggmdlecdbeeaaDoorChecked
import GoSem.PinnedTables
import GoSem.Claim
import GoSem.ClaimJoined
import GoSem.ClaimMapViews
import Derived.JoinedTies
import Derived.KernelRfl
namespace Go.Proofs.YtjggmdlecdbeeaaDoor
/- THE CELL 'sum', in the pinned program and in every row, IS THE sha256 OF THE DUMP (.gsa) THAT YtjggmdlecdbeeaaDoorProg.lean LOADS. Nothing in Lean hashes anything: it is a label: what it is worth is what the hold of that sum in a sandbox is worth. -/
noncomputable def Tryd.pinned : Pinned := { name := "ytjggmdlecdbeeaadoor", sum := "149cedca63780dbe0aa8988e5a3c39a4c8a8a443277f595038ebaa45a3754e6f", checked := Tryd.checked }
namespace Rows
def none {H : Type} : Left H := { results := [], args := [] }

/- WHAT THE LISTED PACKAGE-LEVEL VARIABLES READ AS WHEN THE CALL BEGINS. Each datum BY PROGRAM (the guide's laid-datum.mjs) off the statement by which the dump's own 'gosem.cut.vars' lays the variable. In a bare row this is a premise. The card (YtjggmdlecdbeeaaDoorCards.lean) ties it to the program's text. -/
def laid_unicode_utf8_acceptRanges {H : Type} : DataW H := .agg [.agg [.lit (.int .u8 128), .lit (.int .u8 191)], .agg [.lit (.int .u8 160), .lit (.int .u8 191)], .agg [.lit (.int .u8 128), .lit (.int .u8 159)], .agg [.lit (.int .u8 144), .lit (.int .u8 191)], .agg [.lit (.int .u8 128), .lit (.int .u8 143)], .agg [.lit (.int .u8 0), .lit (.int .u8 0)], .agg [.lit (.int .u8 0), .lit (.int .u8 0)], .agg [.lit (.int .u8 0), .lit (.int .u8 0)], .agg [.lit (.int .u8 0), .lit (.int .u8 0)], .agg [.lit (.int .u8 0), .lit (.int .u8 0)], .agg [.lit (.int .u8 0), .lit (.int .u8 0)], .agg [.lit (.int .u8 0), .lit (.int .u8 0)], .agg [.lit (.int .u8 0), .lit (.int .u8 0)], .agg [.lit (.int .u8 0), .lit (.int .u8 0)], .agg [.lit (.int .u8 0), .lit (.int .u8 0)], .agg [.lit (.int .u8 0), .lit (.int .u8 0)]]
/-- One of Go's own tables, pinned by name: the form's constant. -/
def laid_unicode_utf8_first : DataW Unit := Go.Pinned.utf8First

/-- 'affidavitlaw04.DecRounds': WHATEVER THE INPUT: true; the input reads as it did. -/
def decRoundsSpec : ChangeSpec := { name := "decRounds", fn := fun _ => fun
  | [d1, d2] => { results := [.lit (.bool true)], args := [d1, d2] }
  | _ => none }
def decRoundsRow : OpenClaim := { program := "ytjggmdlecdbeeaadoor", sum := "149cedca63780dbe0aa8988e5a3c39a4c8a8a443277f595038ebaa45a3754e6f", func := "affidavit/affidavitlaw04.DecRounds", spec := "decRounds", inPlace := ["internal/bytealg.IndexByteString", "internal/bytealg.IndexString", "math/bits.Add64", "math/bits.Sub64", "internal/bytealg.abigen_runtime_cmpstring"], named := ["unicode/utf8.first", "unicode/utf8.acceptRanges", "internal/bytealg.MaxLen"], apart := false, laid := [("unicode/utf8.acceptRanges", laid_unicode_utf8_acceptRanges), ("unicode/utf8.first", laid_unicode_utf8_first)] }
def DecRoundsSaid : Prop := decRoundsRow.holds Tryd.pinned (OpenSpec.ofChange decRoundsSpec)

/-- ITS FALSE NEIGHBOUR: 'it returns false'. Refute it at one input. -/
def decRoundsWrong : ChangeSpec := { name := "decRounds", fn := fun _ => fun
  | [d1, d2] => { results := [.lit (.bool false)], args := [d1, d2] }
  | _ => none }
def DecRoundsWrongFalsely : Prop := decRoundsRow.holds Tryd.pinned (OpenSpec.ofChange decRoundsWrong)

/-- 'affidavitlaw04.DecCompares': WHATEVER THE INPUT: true; the input reads as it did. -/
def decComparesSpec : ChangeSpec := { name := "decCompares", fn := fun _ => fun
  | [d1, d2] => { results := [.lit (.bool true)], args := [d1, d2] }
  | _ => none }
def decComparesRow : OpenClaim := { program := "ytjggmdlecdbeeaadoor", sum := "149cedca63780dbe0aa8988e5a3c39a4c8a8a443277f595038ebaa45a3754e6f", func := "affidavit/affidavitlaw04.DecCompares", spec := "decCompares", inPlace := ["internal/bytealg.IndexByteString", "internal/bytealg.IndexString", "internal/bytealg.abigen_runtime_cmpstring", "math/bits.Add64", "math/bits.Sub64"], named := ["unicode/utf8.first", "unicode/utf8.acceptRanges", "internal/bytealg.MaxLen"], apart := false, laid := [("unicode/utf8.acceptRanges", laid_unicode_utf8_acceptRanges), ("unicode/utf8.first", laid_unicode_utf8_first)] }
def DecComparesSaid : Prop := decComparesRow.holds Tryd.pinned (OpenSpec.ofChange decComparesSpec)

/-- ITS FALSE NEIGHBOUR: 'it returns false'. Refute it at one input. -/
def decComparesWrong : ChangeSpec := { name := "decCompares", fn := fun _ => fun
  | [d1, d2] => { results := [.lit (.bool false)], args := [d1, d2] }
  | _ => none }
def DecComparesWrongFalsely : Prop := decComparesRow.holds Tryd.pinned (OpenSpec.ofChange decComparesWrong)

/-- 'affidavitlaw04.DecOrders': WHATEVER THE INPUT: true; the input reads as it did. -/
def decOrdersSpec : ChangeSpec := { name := "decOrders", fn := fun _ => fun
  | [d1, d2, d3] => { results := [.lit (.bool true)], args := [d1, d2, d3] }
  | _ => none }
def decOrdersRow : OpenClaim := { program := "ytjggmdlecdbeeaadoor", sum := "149cedca63780dbe0aa8988e5a3c39a4c8a8a443277f595038ebaa45a3754e6f", func := "affidavit/affidavitlaw04.DecOrders", spec := "decOrders", inPlace := ["internal/bytealg.IndexByteString", "internal/bytealg.IndexString", "internal/bytealg.abigen_runtime_cmpstring", "math/bits.Add64", "math/bits.Sub64"], named := ["unicode/utf8.first", "unicode/utf8.acceptRanges", "internal/bytealg.MaxLen"], apart := false, laid := [("unicode/utf8.acceptRanges", laid_unicode_utf8_acceptRanges), ("unicode/utf8.first", laid_unicode_utf8_first)] }
def DecOrdersSaid : Prop := decOrdersRow.holds Tryd.pinned (OpenSpec.ofChange decOrdersSpec)

/-- ITS FALSE NEIGHBOUR: 'it returns false'. Refute it at one input. -/
def decOrdersWrong : ChangeSpec := { name := "decOrders", fn := fun _ => fun
  | [d1, d2, d3] => { results := [.lit (.bool false)], args := [d1, d2, d3] }
  | _ => none }
def DecOrdersWrongFalsely : Prop := decOrdersRow.holds Tryd.pinned (OpenSpec.ofChange decOrdersWrong)

/-- 'affidavitlaw04.DecRises': WHATEVER THE INPUT: true; the input reads as it did. -/
def decRisesSpec : ChangeSpec := { name := "decRises", fn := fun _ => fun
  | [d1, d2, d3] => { results := [.lit (.bool true)], args := [d1, d2, d3] }
  | _ => none }
def decRisesRow : OpenClaim := { program := "ytjggmdlecdbeeaadoor", sum := "149cedca63780dbe0aa8988e5a3c39a4c8a8a443277f595038ebaa45a3754e6f", func := "affidavit/affidavitlaw04.DecRises", spec := "decRises", inPlace := ["internal/bytealg.IndexByteString", "internal/bytealg.IndexString", "internal/bytealg.abigen_runtime_cmpstring", "math/bits.Add64", "math/bits.Sub64", "math.Float64frombits"], named := ["unicode/utf8.first", "unicode/utf8.acceptRanges", "internal/bytealg.MaxLen"], apart := false, laid := [("unicode/utf8.acceptRanges", laid_unicode_utf8_acceptRanges), ("unicode/utf8.first", laid_unicode_utf8_first)] }
def DecRisesSaid : Prop := decRisesRow.holds Tryd.pinned (OpenSpec.ofChange decRisesSpec)

/-- ITS FALSE NEIGHBOUR: 'it returns false'. Refute it at one input. -/
def decRisesWrong : ChangeSpec := { name := "decRises", fn := fun _ => fun
  | [d1, d2, d3] => { results := [.lit (.bool false)], args := [d1, d2, d3] }
  | _ => none }
def DecRisesWrongFalsely : Prop := decRisesRow.holds Tryd.pinned (OpenSpec.ofChange decRisesWrong)

/-- 'affidavitlaw04.DecTurns': WHATEVER THE INPUT: true; the input reads as it did. -/
def decTurnsSpec : ChangeSpec := { name := "decTurns", fn := fun _ => fun
  | [d1, d2] => { results := [.lit (.bool true)], args := [d1, d2] }
  | _ => none }
def decTurnsRow : OpenClaim := { program := "ytjggmdlecdbeeaadoor", sum := "149cedca63780dbe0aa8988e5a3c39a4c8a8a443277f595038ebaa45a3754e6f", func := "affidavit/affidavitlaw04.DecTurns", spec := "decTurns", inPlace := ["internal/bytealg.IndexByteString", "internal/bytealg.IndexString", "math/bits.Add64", "math/bits.Sub64", "internal/bytealg.abigen_runtime_cmpstring"], named := ["unicode/utf8.first", "unicode/utf8.acceptRanges", "internal/bytealg.MaxLen"], apart := false, laid := [("unicode/utf8.acceptRanges", laid_unicode_utf8_acceptRanges), ("unicode/utf8.first", laid_unicode_utf8_first)] }
def DecTurnsSaid : Prop := decTurnsRow.holds Tryd.pinned (OpenSpec.ofChange decTurnsSpec)

/-- ITS FALSE NEIGHBOUR: 'it returns false'. Refute it at one input. -/
def decTurnsWrong : ChangeSpec := { name := "decTurns", fn := fun _ => fun
  | [d1, d2] => { results := [.lit (.bool false)], args := [d1, d2] }
  | _ => none }
def DecTurnsWrongFalsely : Prop := decTurnsRow.holds Tryd.pinned (OpenSpec.ofChange decTurnsWrong)

/-- 'affidavitlaw04.DecChecks': WHATEVER THE INPUT: true; the input reads as it did. -/
def decChecksSpec : ChangeSpec := { name := "decChecks", fn := fun _ => fun
  | [d] => { results := [.lit (.bool true)], args := [d] }
  | _ => none }
def decChecksRow : OpenClaim := { program := "ytjggmdlecdbeeaadoor", sum := "149cedca63780dbe0aa8988e5a3c39a4c8a8a443277f595038ebaa45a3754e6f", func := "affidavit/affidavitlaw04.DecChecks", spec := "decChecks", inPlace := ["internal/bytealg.IndexByteString", "internal/bytealg.IndexString", "math/bits.Add64", "math/bits.Sub64", "math.Float64frombits", "math.Float64bits", "internal/bytealg.abigen_runtime_cmpstring"], named := ["unicode/utf8.first", "unicode/utf8.acceptRanges", "internal/bytealg.MaxLen"], apart := false, laid := [("unicode/utf8.acceptRanges", laid_unicode_utf8_acceptRanges), ("unicode/utf8.first", laid_unicode_utf8_first)] }
def DecChecksSaid : Prop := decChecksRow.holds Tryd.pinned (OpenSpec.ofChange decChecksSpec)

/-- ITS FALSE NEIGHBOUR: 'it returns false'. Refute it at one input. -/
def decChecksWrong : ChangeSpec := { name := "decChecks", fn := fun _ => fun
  | [d] => { results := [.lit (.bool false)], args := [d] }
  | _ => none }
def DecChecksWrongFalsely : Prop := decChecksRow.holds Tryd.pinned (OpenSpec.ofChange decChecksWrong)

/-- 'affidavitlaw04.DecHolds': WHATEVER THE INPUT: true; the input reads as it did. -/
def decHoldsSpec : ChangeSpec := { name := "decHolds", fn := fun _ => fun
  | [d1, d2] => { results := [.lit (.bool true)], args := [d1, d2] }
  | _ => none }
def decHoldsRow : OpenClaim := { program := "ytjggmdlecdbeeaadoor", sum := "149cedca63780dbe0aa8988e5a3c39a4c8a8a443277f595038ebaa45a3754e6f", func := "affidavit/affidavitlaw04.DecHolds", spec := "decHolds", inPlace := ["math.Float64frombits", "math.Float64bits", "internal/bytealg.IndexByteString", "internal/bytealg.IndexString", "math/bits.Add64", "math/bits.Sub64", "internal/bytealg.abigen_runtime_cmpstring"], named := ["unicode/utf8.first", "unicode/utf8.acceptRanges", "internal/bytealg.MaxLen"], apart := false, laid := [("unicode/utf8.acceptRanges", laid_unicode_utf8_acceptRanges), ("unicode/utf8.first", laid_unicode_utf8_first)] }
def DecHoldsSaid : Prop := decHoldsRow.holds Tryd.pinned (OpenSpec.ofChange decHoldsSpec)

/-- ITS FALSE NEIGHBOUR: 'it returns false'. Refute it at one input. -/
def decHoldsWrong : ChangeSpec := { name := "decHolds", fn := fun _ => fun
  | [d1, d2] => { results := [.lit (.bool false)], args := [d1, d2] }
  | _ => none }
def DecHoldsWrongFalsely : Prop := decHoldsRow.holds Tryd.pinned (OpenSpec.ofChange decHoldsWrong)

/-- 'affidavitlaw04.DecBetween': WHATEVER THE INPUT: true; the input reads as it did. -/
def decBetweenSpec : ChangeSpec := { name := "decBetween", fn := fun _ => fun
  | [d] => { results := [.lit (.bool true)], args := [d] }
  | _ => none }
def decBetweenRow : OpenClaim := { program := "ytjggmdlecdbeeaadoor", sum := "149cedca63780dbe0aa8988e5a3c39a4c8a8a443277f595038ebaa45a3754e6f", func := "affidavit/affidavitlaw04.DecBetween", spec := "decBetween", inPlace := ["internal/bytealg.IndexByteString", "internal/bytealg.IndexString", "math/bits.Add64", "math/bits.Sub64", "internal/bytealg.abigen_runtime_cmpstring", "math.Float64frombits", "math.Float64bits"], named := ["unicode/utf8.first", "unicode/utf8.acceptRanges", "internal/bytealg.MaxLen"], apart := false, laid := [("unicode/utf8.acceptRanges", laid_unicode_utf8_acceptRanges), ("unicode/utf8.first", laid_unicode_utf8_first)] }
def DecBetweenSaid : Prop := decBetweenRow.holds Tryd.pinned (OpenSpec.ofChange decBetweenSpec)

/-- ITS FALSE NEIGHBOUR: 'it returns false'. Refute it at one input. -/
def decBetweenWrong : ChangeSpec := { name := "decBetween", fn := fun _ => fun
  | [d] => { results := [.lit (.bool false)], args := [d] }
  | _ => none }
def DecBetweenWrongFalsely : Prop := decBetweenRow.holds Tryd.pinned (OpenSpec.ofChange decBetweenWrong)

/- THE SECOND FORM. 'bulk': how many values and letters a reading holds, each counted each time it is reached (what is shared counts as often as it is met; a slice's spare places count too). A statement '..UptoSaid' is the law's where the arguments, and the package variables that the reading takes, are together of bulk at most 1048576: NARROWER than '..Said'. Prove '..Said' where nothing that the law and all that it calls make is longer than what came in: it says more and counts as full. Else prove '..UptoSaid'. A law counts once. -/
mutual
def uptoBulk {H : Type} : DataW H → Nat
  | .lit (.string bytes) => bytes.length + 1
  | .lit _ => 1
  | .nil => 1
  | .ptr d => uptoBulk d + 1
  | .slice elems spare => uptoBulkAll elems + uptoBulkAll spare + 1
  | .agg parts => uptoBulkAll parts + 1
  | .iface _ d => uptoBulk d + 1
  | .map entries => uptoBulkEntries entries + 1
  | .held _ => 1
def uptoBulkAll {H : Type} : List (DataW H) → Nat
  | [] => 0
  | d :: r => uptoBulk d + uptoBulkAll r
def uptoBulkEntries {H : Type} : List (Lit × DataW H) → Nat
  | [] => 0
  | x :: r => uptoBulkEntry x + uptoBulkEntries r
def uptoBulkEntry {H : Type} : Lit × DataW H → Nat
  | (.string bytes, d) => bytes.length + uptoBulk d + 1
  | (_, d) => uptoBulk d + 1
 end
def uptoSmall : (H : Type) → List (DataW H) → Bool := fun _ ds => decide (uptoBulkAll ds ≤ 1048576)
def OpenSpec.upto (s : _root_.Go.ChangeSpec) : _root_.Go.OpenSpec := { _root_.Go.OpenSpec.ofChange s with cond := some uptoSmall }

/-- 'affidavitlaw04.DecRounds', WHERE WHAT IT READS IS OF BULK AT MOST 1048576: true; the input reads as it did. -/
def decRoundsUptoRow : OpenClaim := { program := "ytjggmdlecdbeeaadoor", sum := "149cedca63780dbe0aa8988e5a3c39a4c8a8a443277f595038ebaa45a3754e6f", func := "affidavit/affidavitlaw04.DecRounds", spec := "decRounds", inPlace := ["internal/bytealg.IndexByteString", "internal/bytealg.IndexString", "math/bits.Add64", "math/bits.Sub64", "internal/bytealg.abigen_runtime_cmpstring"], named := ["unicode/utf8.first", "unicode/utf8.acceptRanges", "internal/bytealg.MaxLen"], apart := false, laid := [("unicode/utf8.acceptRanges", laid_unicode_utf8_acceptRanges), ("unicode/utf8.first", laid_unicode_utf8_first)], narrowed := true }
def DecRoundsUptoSaid : Prop := decRoundsUptoRow.holds Tryd.pinned (OpenSpec.upto decRoundsSpec)

/-- 'affidavitlaw04.DecCompares', WHERE WHAT IT READS IS OF BULK AT MOST 1048576: true; the input reads as it did. -/
def decComparesUptoRow : OpenClaim := { program := "ytjggmdlecdbeeaadoor", sum := "149cedca63780dbe0aa8988e5a3c39a4c8a8a443277f595038ebaa45a3754e6f", func := "affidavit/affidavitlaw04.DecCompares", spec := "decCompares", inPlace := ["internal/bytealg.IndexByteString", "internal/bytealg.IndexString", "internal/bytealg.abigen_runtime_cmpstring", "math/bits.Add64", "math/bits.Sub64"], named := ["unicode/utf8.first", "unicode/utf8.acceptRanges", "internal/bytealg.MaxLen"], apart := false, laid := [("unicode/utf8.acceptRanges", laid_unicode_utf8_acceptRanges), ("unicode/utf8.first", laid_unicode_utf8_first)], narrowed := true }
def DecComparesUptoSaid : Prop := decComparesUptoRow.holds Tryd.pinned (OpenSpec.upto decComparesSpec)

/-- 'affidavitlaw04.DecOrders', WHERE WHAT IT READS IS OF BULK AT MOST 1048576: true; the input reads as it did. -/
def decOrdersUptoRow : OpenClaim := { program := "ytjggmdlecdbeeaadoor", sum := "149cedca63780dbe0aa8988e5a3c39a4c8a8a443277f595038ebaa45a3754e6f", func := "affidavit/affidavitlaw04.DecOrders", spec := "decOrders", inPlace := ["internal/bytealg.IndexByteString", "internal/bytealg.IndexString", "internal/bytealg.abigen_runtime_cmpstring", "math/bits.Add64", "math/bits.Sub64"], named := ["unicode/utf8.first", "unicode/utf8.acceptRanges", "internal/bytealg.MaxLen"], apart := false, laid := [("unicode/utf8.acceptRanges", laid_unicode_utf8_acceptRanges), ("unicode/utf8.first", laid_unicode_utf8_first)], narrowed := true }
def DecOrdersUptoSaid : Prop := decOrdersUptoRow.holds Tryd.pinned (OpenSpec.upto decOrdersSpec)

/-- 'affidavitlaw04.DecRises', WHERE WHAT IT READS IS OF BULK AT MOST 1048576: true; the input reads as it did. -/
def decRisesUptoRow : OpenClaim := { program := "ytjggmdlecdbeeaadoor", sum := "149cedca63780dbe0aa8988e5a3c39a4c8a8a443277f595038ebaa45a3754e6f", func := "affidavit/affidavitlaw04.DecRises", spec := "decRises", inPlace := ["internal/bytealg.IndexByteString", "internal/bytealg.IndexString", "internal/bytealg.abigen_runtime_cmpstring", "math/bits.Add64", "math/bits.Sub64", "math.Float64frombits"], named := ["unicode/utf8.first", "unicode/utf8.acceptRanges", "internal/bytealg.MaxLen"], apart := false, laid := [("unicode/utf8.acceptRanges", laid_unicode_utf8_acceptRanges), ("unicode/utf8.first", laid_unicode_utf8_first)], narrowed := true }
def DecRisesUptoSaid : Prop := decRisesUptoRow.holds Tryd.pinned (OpenSpec.upto decRisesSpec)

/-- 'affidavitlaw04.DecTurns', WHERE WHAT IT READS IS OF BULK AT MOST 1048576: true; the input reads as it did. -/
def decTurnsUptoRow : OpenClaim := { program := "ytjggmdlecdbeeaadoor", sum := "149cedca63780dbe0aa8988e5a3c39a4c8a8a443277f595038ebaa45a3754e6f", func := "affidavit/affidavitlaw04.DecTurns", spec := "decTurns", inPlace := ["internal/bytealg.IndexByteString", "internal/bytealg.IndexString", "math/bits.Add64", "math/bits.Sub64", "internal/bytealg.abigen_runtime_cmpstring"], named := ["unicode/utf8.first", "unicode/utf8.acceptRanges", "internal/bytealg.MaxLen"], apart := false, laid := [("unicode/utf8.acceptRanges", laid_unicode_utf8_acceptRanges), ("unicode/utf8.first", laid_unicode_utf8_first)], narrowed := true }
def DecTurnsUptoSaid : Prop := decTurnsUptoRow.holds Tryd.pinned (OpenSpec.upto decTurnsSpec)

/-- 'affidavitlaw04.DecChecks', WHERE WHAT IT READS IS OF BULK AT MOST 1048576: true; the input reads as it did. -/
def decChecksUptoRow : OpenClaim := { program := "ytjggmdlecdbeeaadoor", sum := "149cedca63780dbe0aa8988e5a3c39a4c8a8a443277f595038ebaa45a3754e6f", func := "affidavit/affidavitlaw04.DecChecks", spec := "decChecks", inPlace := ["internal/bytealg.IndexByteString", "internal/bytealg.IndexString", "math/bits.Add64", "math/bits.Sub64", "math.Float64frombits", "math.Float64bits", "internal/bytealg.abigen_runtime_cmpstring"], named := ["unicode/utf8.first", "unicode/utf8.acceptRanges", "internal/bytealg.MaxLen"], apart := false, laid := [("unicode/utf8.acceptRanges", laid_unicode_utf8_acceptRanges), ("unicode/utf8.first", laid_unicode_utf8_first)], narrowed := true }
def DecChecksUptoSaid : Prop := decChecksUptoRow.holds Tryd.pinned (OpenSpec.upto decChecksSpec)

/-- 'affidavitlaw04.DecHolds', WHERE WHAT IT READS IS OF BULK AT MOST 1048576: true; the input reads as it did. -/
def decHoldsUptoRow : OpenClaim := { program := "ytjggmdlecdbeeaadoor", sum := "149cedca63780dbe0aa8988e5a3c39a4c8a8a443277f595038ebaa45a3754e6f", func := "affidavit/affidavitlaw04.DecHolds", spec := "decHolds", inPlace := ["math.Float64frombits", "math.Float64bits", "internal/bytealg.IndexByteString", "internal/bytealg.IndexString", "math/bits.Add64", "math/bits.Sub64", "internal/bytealg.abigen_runtime_cmpstring"], named := ["unicode/utf8.first", "unicode/utf8.acceptRanges", "internal/bytealg.MaxLen"], apart := false, laid := [("unicode/utf8.acceptRanges", laid_unicode_utf8_acceptRanges), ("unicode/utf8.first", laid_unicode_utf8_first)], narrowed := true }
def DecHoldsUptoSaid : Prop := decHoldsUptoRow.holds Tryd.pinned (OpenSpec.upto decHoldsSpec)

/-- 'affidavitlaw04.DecBetween', WHERE WHAT IT READS IS OF BULK AT MOST 1048576: true; the input reads as it did. -/
def decBetweenUptoRow : OpenClaim := { program := "ytjggmdlecdbeeaadoor", sum := "149cedca63780dbe0aa8988e5a3c39a4c8a8a443277f595038ebaa45a3754e6f", func := "affidavit/affidavitlaw04.DecBetween", spec := "decBetween", inPlace := ["internal/bytealg.IndexByteString", "internal/bytealg.IndexString", "math/bits.Add64", "math/bits.Sub64", "internal/bytealg.abigen_runtime_cmpstring", "math.Float64frombits", "math.Float64bits"], named := ["unicode/utf8.first", "unicode/utf8.acceptRanges", "internal/bytealg.MaxLen"], apart := false, laid := [("unicode/utf8.acceptRanges", laid_unicode_utf8_acceptRanges), ("unicode/utf8.first", laid_unicode_utf8_first)], narrowed := true }
def DecBetweenUptoSaid : Prop := decBetweenUptoRow.holds Tryd.pinned (OpenSpec.upto decBetweenSpec)

end Rows
end Go.Proofs.YtjggmdlecdbeeaaDoor
