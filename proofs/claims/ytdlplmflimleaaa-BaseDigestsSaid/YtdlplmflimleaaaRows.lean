/-
  No cell of these rows narrows 'for every input' (looked for: loops, veiled, ifaces, maps, wideKeys, modest, calm, conditions, laid).
  DERIVED. THE GIVEN ROWS OF THIS SEAT. 8 by the template 'for every input the law returns true; each argument reads behind the call as it read before'; 0 by the template 'total and deterministic' (their statements: YtdlplmflimleaaaTotals.lean).
  GIVEN WITH THE SEED: the statements are not yours to turn. If you find one false, say at which input.
  Laid BY PROGRAM, IN A SANDBOX (cutbox-rows.mjs): the forced cells as the released guide's own fill.sh prints them over the translation 910ab673c0ade8b8… (all of the seat's roots in one cut). By AI agents, Wed Nov 11 2026. No macro, syntax, notation, axiom, sorry.
-/
import Derived.Test.YtdlplmflimleaaaChecked
import GoSem.Claim
import GoSem.ClaimJoined
import GoSem.ClaimMapViews
import Derived.JoinedTies
import Derived.KernelRfl
namespace Go.Proofs.Ytdlplmflimleaaa
/- THE CELL 'sum', in the pinned program and in every row, IS THE sha256 OF THE DUMP (.gsa) THAT YtdlplmflimleaaaProg.lean LOADS. Nothing in Lean hashes anything: it is a label: what it is worth is what the hold of that sum in a sandbox is worth. -/
noncomputable def Try.pinned : Pinned := { name := "ytdlplmflimleaaa", sum := "910ab673c0ade8b85ee407027d3f39a5f8b9824052f44a3cd436caacec0f8214", checked := Try.checked }
namespace Rows
def none {H : Type} : Left H := { results := [], args := [] }

/-- 'affidavitlaw06.BaseSizes': WHATEVER THE INPUT: true; the input reads as it did. -/
def baseSizesSpec : ChangeSpec := { name := "baseSizes", fn := fun _ => fun
  | [d1, d2] => { results := [.lit (.bool true)], args := [d1, d2] }
  | _ => none }
def baseSizesRow : OpenClaim := { program := "ytdlplmflimleaaa", sum := "910ab673c0ade8b85ee407027d3f39a5f8b9824052f44a3cd436caacec0f8214", func := "affidavit/affidavitlaw06.BaseSizes", spec := "baseSizes", apart := false }
def BaseSizesSaid : Prop := baseSizesRow.holds Try.pinned (OpenSpec.ofChange baseSizesSpec)

/-- ITS FALSE NEIGHBOUR: 'it returns false'. Refute it at one input. -/
def baseSizesWrong : ChangeSpec := { name := "baseSizes", fn := fun _ => fun
  | [d1, d2] => { results := [.lit (.bool false)], args := [d1, d2] }
  | _ => none }
def BaseSizesWrongFalsely : Prop := baseSizesRow.holds Try.pinned (OpenSpec.ofChange baseSizesWrong)

/-- 'affidavitlaw06.BaseOrder': WHATEVER THE INPUT: true; the input reads as it did. -/
def baseOrderSpec : ChangeSpec := { name := "baseOrder", fn := fun _ => fun
  | [d1, d2] => { results := [.lit (.bool true)], args := [d1, d2] }
  | _ => none }
def baseOrderRow : OpenClaim := { program := "ytdlplmflimleaaa", sum := "910ab673c0ade8b85ee407027d3f39a5f8b9824052f44a3cd436caacec0f8214", func := "affidavit/affidavitlaw06.BaseOrder", spec := "baseOrder", apart := false }
def BaseOrderSaid : Prop := baseOrderRow.holds Try.pinned (OpenSpec.ofChange baseOrderSpec)

/-- ITS FALSE NEIGHBOUR: 'it returns false'. Refute it at one input. -/
def baseOrderWrong : ChangeSpec := { name := "baseOrder", fn := fun _ => fun
  | [d1, d2] => { results := [.lit (.bool false)], args := [d1, d2] }
  | _ => none }
def BaseOrderWrongFalsely : Prop := baseOrderRow.holds Try.pinned (OpenSpec.ofChange baseOrderWrong)

/-- 'affidavitlaw06.BasePieces': WHATEVER THE INPUT: true; the input reads as it did. -/
def basePiecesSpec : ChangeSpec := { name := "basePieces", fn := fun _ => fun
  | [d1, d2] => { results := [.lit (.bool true)], args := [d1, d2] }
  | _ => none }
def basePiecesRow : OpenClaim := { program := "ytdlplmflimleaaa", sum := "910ab673c0ade8b85ee407027d3f39a5f8b9824052f44a3cd436caacec0f8214", func := "affidavit/affidavitlaw06.BasePieces", spec := "basePieces", apart := false }
def BasePiecesSaid : Prop := basePiecesRow.holds Try.pinned (OpenSpec.ofChange basePiecesSpec)

/-- ITS FALSE NEIGHBOUR: 'it returns false'. Refute it at one input. -/
def basePiecesWrong : ChangeSpec := { name := "basePieces", fn := fun _ => fun
  | [d1, d2] => { results := [.lit (.bool false)], args := [d1, d2] }
  | _ => none }
def BasePiecesWrongFalsely : Prop := basePiecesRow.holds Try.pinned (OpenSpec.ofChange basePiecesWrong)

/-- 'affidavitlaw06.BaseNames': WHATEVER THE INPUT: true; the input reads as it did. -/
def baseNamesSpec : ChangeSpec := { name := "baseNames", fn := fun _ => fun
  | [] => { results := [.lit (.bool true)], args := [] }
  | _ => none }
def baseNamesRow : OpenClaim := { program := "ytdlplmflimleaaa", sum := "910ab673c0ade8b85ee407027d3f39a5f8b9824052f44a3cd436caacec0f8214", func := "affidavit/affidavitlaw06.BaseNames", spec := "baseNames", apart := false }
def BaseNamesSaid : Prop := baseNamesRow.holds Try.pinned (OpenSpec.ofChange baseNamesSpec)

/-- ITS FALSE NEIGHBOUR: 'it returns false'. Refute it at one input. -/
def baseNamesWrong : ChangeSpec := { name := "baseNames", fn := fun _ => fun
  | [] => { results := [.lit (.bool false)], args := [] }
  | _ => none }
def BaseNamesWrongFalsely : Prop := baseNamesRow.holds Try.pinned (OpenSpec.ofChange baseNamesWrong)

/-- 'affidavitlaw06.BaseWrites': WHATEVER THE INPUT: true; the input reads as it did. -/
def baseWritesSpec : ChangeSpec := { name := "baseWrites", fn := fun _ => fun
  | [d1, d2] => { results := [.lit (.bool true)], args := [d1, d2] }
  | _ => none }
def baseWritesRow : OpenClaim := { program := "ytdlplmflimleaaa", sum := "910ab673c0ade8b85ee407027d3f39a5f8b9824052f44a3cd436caacec0f8214", func := "affidavit/affidavitlaw06.BaseWrites", spec := "baseWrites", apart := false }
def BaseWritesSaid : Prop := baseWritesRow.holds Try.pinned (OpenSpec.ofChange baseWritesSpec)

/-- ITS FALSE NEIGHBOUR: 'it returns false'. Refute it at one input. -/
def baseWritesWrong : ChangeSpec := { name := "baseWrites", fn := fun _ => fun
  | [d1, d2] => { results := [.lit (.bool false)], args := [d1, d2] }
  | _ => none }
def BaseWritesWrongFalsely : Prop := baseWritesRow.holds Try.pinned (OpenSpec.ofChange baseWritesWrong)

/-- 'affidavitlaw06.BaseTurned': WHATEVER THE INPUT: true; the input reads as it did. -/
def baseTurnedSpec : ChangeSpec := { name := "baseTurned", fn := fun _ => fun
  | [d] => { results := [.lit (.bool true)], args := [d] }
  | _ => none }
def baseTurnedRow : OpenClaim := { program := "ytdlplmflimleaaa", sum := "910ab673c0ade8b85ee407027d3f39a5f8b9824052f44a3cd436caacec0f8214", func := "affidavit/affidavitlaw06.BaseTurned", spec := "baseTurned", apart := false }
def BaseTurnedSaid : Prop := baseTurnedRow.holds Try.pinned (OpenSpec.ofChange baseTurnedSpec)

/-- ITS FALSE NEIGHBOUR: 'it returns false'. Refute it at one input. -/
def baseTurnedWrong : ChangeSpec := { name := "baseTurned", fn := fun _ => fun
  | [d] => { results := [.lit (.bool false)], args := [d] }
  | _ => none }
def BaseTurnedWrongFalsely : Prop := baseTurnedRow.holds Try.pinned (OpenSpec.ofChange baseTurnedWrong)

/-- 'affidavitlaw06.BaseReads': WHATEVER THE INPUT: true; the input reads as it did. -/
def baseReadsSpec : ChangeSpec := { name := "baseReads", fn := fun _ => fun
  | [d1, d2] => { results := [.lit (.bool true)], args := [d1, d2] }
  | _ => none }
def baseReadsRow : OpenClaim := { program := "ytdlplmflimleaaa", sum := "910ab673c0ade8b85ee407027d3f39a5f8b9824052f44a3cd436caacec0f8214", func := "affidavit/affidavitlaw06.BaseReads", spec := "baseReads", inPlace := ["internal/reflectlite.TypeOf"], unfollowed := true, recurses := true, apart := false }
def BaseReadsSaid : Prop := baseReadsRow.holds Try.pinned (OpenSpec.ofChange baseReadsSpec)

/-- ITS FALSE NEIGHBOUR: 'it returns false'. Refute it at one input. -/
def baseReadsWrong : ChangeSpec := { name := "baseReads", fn := fun _ => fun
  | [d1, d2] => { results := [.lit (.bool false)], args := [d1, d2] }
  | _ => none }
def BaseReadsWrongFalsely : Prop := baseReadsRow.holds Try.pinned (OpenSpec.ofChange baseReadsWrong)

/-- 'affidavitlaw06.BaseDigests': WHATEVER THE INPUT: true; the input reads as it did. -/
def baseDigestsSpec : ChangeSpec := { name := "baseDigests", fn := fun _ => fun
  | [d1, d2] => { results := [.lit (.bool true)], args := [d1, d2] }
  | _ => none }
def baseDigestsRow : OpenClaim := { program := "ytdlplmflimleaaa", sum := "910ab673c0ade8b85ee407027d3f39a5f8b9824052f44a3cd436caacec0f8214", func := "affidavit/affidavitlaw06.BaseDigests", spec := "baseDigests", inPlace := ["internal/reflectlite.TypeOf"], unfollowed := true, recurses := true, apart := false }
def BaseDigestsSaid : Prop := baseDigestsRow.holds Try.pinned (OpenSpec.ofChange baseDigestsSpec)

/-- ITS FALSE NEIGHBOUR: 'it returns false'. Refute it at one input. -/
def baseDigestsWrong : ChangeSpec := { name := "baseDigests", fn := fun _ => fun
  | [d1, d2] => { results := [.lit (.bool false)], args := [d1, d2] }
  | _ => none }
def BaseDigestsWrongFalsely : Prop := baseDigestsRow.holds Try.pinned (OpenSpec.ofChange baseDigestsWrong)

/- THE SECOND FORM. 'bulk': how many values and letters a reading holds, each counted each time it is reached (what is shared counts as often as it is met; a slice's spare places count too). A statement '..UptoSaid' is the law's where the arguments, and the package variables that the reading takes, are together of bulk at most 1048576: NARROWER than '..Said'. Prove '..Said' where nothing that the law and all that it calls make is longer than what came in: it says more and counts as full. Else prove '..UptoSaid'. A law counts once. -/
mutual
def uptoBulk {H : Type} : DataW H → Nat
  | .lit (.string bytes) => bytes.length + 1
  | .lit _ => 1
  | .nil => 1
  | .ptr d => uptoBulk d + 1
  | .slice elems spare => uptoBulkAll elems + uptoBulkAll spare + 1
  | .agg parts => uptoBulkAll parts + 1
  | .iface _ d => uptoBulk d + 1
  | .map entries => uptoBulkEntries entries + 1
  | .held _ => 1
def uptoBulkAll {H : Type} : List (DataW H) → Nat
  | [] => 0
  | d :: r => uptoBulk d + uptoBulkAll r
def uptoBulkEntries {H : Type} : List (Lit × DataW H) → Nat
  | [] => 0
  | x :: r => uptoBulkEntry x + uptoBulkEntries r
def uptoBulkEntry {H : Type} : Lit × DataW H → Nat
  | (.string bytes, d) => bytes.length + uptoBulk d + 1
  | (_, d) => uptoBulk d + 1
 end
def uptoSmall : (H : Type) → List (DataW H) → Bool := fun _ ds => decide (uptoBulkAll ds ≤ 1048576)
def OpenSpec.upto (s : _root_.Go.ChangeSpec) : _root_.Go.OpenSpec := { _root_.Go.OpenSpec.ofChange s with cond := some uptoSmall }

/-- 'affidavitlaw06.BaseSizes', WHERE WHAT IT READS IS OF BULK AT MOST 1048576: true; the input reads as it did. -/
def baseSizesUptoRow : OpenClaim := { program := "ytdlplmflimleaaa", sum := "910ab673c0ade8b85ee407027d3f39a5f8b9824052f44a3cd436caacec0f8214", func := "affidavit/affidavitlaw06.BaseSizes", spec := "baseSizes", apart := false, narrowed := true }
def BaseSizesUptoSaid : Prop := baseSizesUptoRow.holds Try.pinned (OpenSpec.upto baseSizesSpec)

/-- 'affidavitlaw06.BaseOrder', WHERE WHAT IT READS IS OF BULK AT MOST 1048576: true; the input reads as it did. -/
def baseOrderUptoRow : OpenClaim := { program := "ytdlplmflimleaaa", sum := "910ab673c0ade8b85ee407027d3f39a5f8b9824052f44a3cd436caacec0f8214", func := "affidavit/affidavitlaw06.BaseOrder", spec := "baseOrder", apart := false, narrowed := true }
def BaseOrderUptoSaid : Prop := baseOrderUptoRow.holds Try.pinned (OpenSpec.upto baseOrderSpec)

/-- 'affidavitlaw06.BasePieces', WHERE WHAT IT READS IS OF BULK AT MOST 1048576: true; the input reads as it did. -/
def basePiecesUptoRow : OpenClaim := { program := "ytdlplmflimleaaa", sum := "910ab673c0ade8b85ee407027d3f39a5f8b9824052f44a3cd436caacec0f8214", func := "affidavit/affidavitlaw06.BasePieces", spec := "basePieces", apart := false, narrowed := true }
def BasePiecesUptoSaid : Prop := basePiecesUptoRow.holds Try.pinned (OpenSpec.upto basePiecesSpec)

/-- 'affidavitlaw06.BaseNames', WHERE WHAT IT READS IS OF BULK AT MOST 1048576: true; the input reads as it did. -/
def baseNamesUptoRow : OpenClaim := { program := "ytdlplmflimleaaa", sum := "910ab673c0ade8b85ee407027d3f39a5f8b9824052f44a3cd436caacec0f8214", func := "affidavit/affidavitlaw06.BaseNames", spec := "baseNames", apart := false, narrowed := true }
def BaseNamesUptoSaid : Prop := baseNamesUptoRow.holds Try.pinned (OpenSpec.upto baseNamesSpec)

/-- 'affidavitlaw06.BaseWrites', WHERE WHAT IT READS IS OF BULK AT MOST 1048576: true; the input reads as it did. -/
def baseWritesUptoRow : OpenClaim := { program := "ytdlplmflimleaaa", sum := "910ab673c0ade8b85ee407027d3f39a5f8b9824052f44a3cd436caacec0f8214", func := "affidavit/affidavitlaw06.BaseWrites", spec := "baseWrites", apart := false, narrowed := true }
def BaseWritesUptoSaid : Prop := baseWritesUptoRow.holds Try.pinned (OpenSpec.upto baseWritesSpec)

/-- 'affidavitlaw06.BaseTurned', WHERE WHAT IT READS IS OF BULK AT MOST 1048576: true; the input reads as it did. -/
def baseTurnedUptoRow : OpenClaim := { program := "ytdlplmflimleaaa", sum := "910ab673c0ade8b85ee407027d3f39a5f8b9824052f44a3cd436caacec0f8214", func := "affidavit/affidavitlaw06.BaseTurned", spec := "baseTurned", apart := false, narrowed := true }
def BaseTurnedUptoSaid : Prop := baseTurnedUptoRow.holds Try.pinned (OpenSpec.upto baseTurnedSpec)

/-- 'affidavitlaw06.BaseReads', WHERE WHAT IT READS IS OF BULK AT MOST 1048576: true; the input reads as it did. -/
def baseReadsUptoRow : OpenClaim := { program := "ytdlplmflimleaaa", sum := "910ab673c0ade8b85ee407027d3f39a5f8b9824052f44a3cd436caacec0f8214", func := "affidavit/affidavitlaw06.BaseReads", spec := "baseReads", inPlace := ["internal/reflectlite.TypeOf"], unfollowed := true, recurses := true, apart := false, narrowed := true }
def BaseReadsUptoSaid : Prop := baseReadsUptoRow.holds Try.pinned (OpenSpec.upto baseReadsSpec)

/-- 'affidavitlaw06.BaseDigests', WHERE WHAT IT READS IS OF BULK AT MOST 1048576: true; the input reads as it did. -/
def baseDigestsUptoRow : OpenClaim := { program := "ytdlplmflimleaaa", sum := "910ab673c0ade8b85ee407027d3f39a5f8b9824052f44a3cd436caacec0f8214", func := "affidavit/affidavitlaw06.BaseDigests", spec := "baseDigests", inPlace := ["internal/reflectlite.TypeOf"], unfollowed := true, recurses := true, apart := false, narrowed := true }
def BaseDigestsUptoSaid : Prop := baseDigestsUptoRow.holds Try.pinned (OpenSpec.upto baseDigestsSpec)

end Rows
end Go.Proofs.Ytdlplmflimleaaa
