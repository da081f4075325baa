/-
  No cell of these rows narrows 'for every input' (looked for: loops, veiled, ifaces, maps, wideKeys, modest, calm, conditions, laid).
  DERIVED. THE GIVEN ROWS OF THIS SEAT. 11 by the template 'for every input the law returns true; each argument reads behind the call as it read before'; 0 by the template 'total and deterministic' (their statements: YtmdgopclcdmenaaTotals.lean).
  GIVEN WITH THE SEED: the statements are not yours to turn. If you find one false, say at which input.
  Laid BY PROGRAM, IN A SANDBOX (cutbox-rows.mjs): the forced cells as the released guide's own fill.sh prints them over the translation 5f73e1c2dc686b07… (all of the seat's roots in one cut). By AI agents, Wed Nov 11 2026. No macro, syntax, notation, axiom, sorry.
-/
import Derived.Test.YtmdgopclcdmenaaChecked
import GoSem.Claim
import GoSem.ClaimJoined
import GoSem.ClaimMapViews
import Derived.JoinedTies
import Derived.KernelRfl
namespace Go.Proofs.Ytmdgopclcdmenaa
/- THE CELL 'sum', in the pinned program and in every row, IS THE sha256 OF THE DUMP (.gsa) THAT YtmdgopclcdmenaaProg.lean LOADS. Nothing in Lean hashes anything: it is a label: what it is worth is what the hold of that sum in a sandbox is worth. -/
noncomputable def Try.pinned : Pinned := { name := "ytmdgopclcdmenaa", sum := "5f73e1c2dc686b07ff74eb392569a54e69569772c781a91642d9dc5a9da6d50f", checked := Try.checked }
namespace Rows
def none {H : Type} : Left H := { results := [], args := [] }

/-- 'affidavitlaw03.UtfEncodes': WHATEVER THE INPUT: true; the input reads as it did. -/
def utfEncodesSpec : ChangeSpec := { name := "utfEncodes", fn := fun _ => fun
  | [d] => { results := [.lit (.bool true)], args := [d] }
  | _ => none }
def utfEncodesRow : OpenClaim := { program := "ytmdgopclcdmenaa", sum := "5f73e1c2dc686b07ff74eb392569a54e69569772c781a91642d9dc5a9da6d50f", func := "affidavit/affidavitlaw03.UtfEncodes", spec := "utfEncodes", apart := false }
def UtfEncodesSaid : Prop := utfEncodesRow.holds Try.pinned (OpenSpec.ofChange utfEncodesSpec)

/-- ITS FALSE NEIGHBOUR: 'it returns false'. Refute it at one input. -/
def utfEncodesWrong : ChangeSpec := { name := "utfEncodes", fn := fun _ => fun
  | [d] => { results := [.lit (.bool false)], args := [d] }
  | _ => none }
def UtfEncodesWrongFalsely : Prop := utfEncodesRow.holds Try.pinned (OpenSpec.ofChange utfEncodesWrong)

/-- 'affidavitlaw03.UtfNames': WHATEVER THE INPUT: true; the input reads as it did. -/
def utfNamesSpec : ChangeSpec := { name := "utfNames", fn := fun _ => fun
  | [] => { results := [.lit (.bool true)], args := [] }
  | _ => none }
def utfNamesRow : OpenClaim := { program := "ytmdgopclcdmenaa", sum := "5f73e1c2dc686b07ff74eb392569a54e69569772c781a91642d9dc5a9da6d50f", func := "affidavit/affidavitlaw03.UtfNames", spec := "utfNames", apart := false }
def UtfNamesSaid : Prop := utfNamesRow.holds Try.pinned (OpenSpec.ofChange utfNamesSpec)

/-- ITS FALSE NEIGHBOUR: 'it returns false'. Refute it at one input. -/
def utfNamesWrong : ChangeSpec := { name := "utfNames", fn := fun _ => fun
  | [] => { results := [.lit (.bool false)], args := [] }
  | _ => none }
def UtfNamesWrongFalsely : Prop := utfNamesRow.holds Try.pinned (OpenSpec.ofChange utfNamesWrong)

/-- 'affidavitlaw03.UtfEach': WHATEVER THE INPUT: true; the input reads as it did. -/
def utfEachSpec : ChangeSpec := { name := "utfEach", fn := fun _ => fun
  | [d1, d2] => { results := [.lit (.bool true)], args := [d1, d2] }
  | _ => none }
def utfEachRow : OpenClaim := { program := "ytmdgopclcdmenaa", sum := "5f73e1c2dc686b07ff74eb392569a54e69569772c781a91642d9dc5a9da6d50f", func := "affidavit/affidavitlaw03.UtfEach", spec := "utfEach", unfollowed := true, recurses := true, apart := false }
def UtfEachSaid : Prop := utfEachRow.holds Try.pinned (OpenSpec.ofChange utfEachSpec)

/-- ITS FALSE NEIGHBOUR: 'it returns false'. Refute it at one input. -/
def utfEachWrong : ChangeSpec := { name := "utfEach", fn := fun _ => fun
  | [d1, d2] => { results := [.lit (.bool false)], args := [d1, d2] }
  | _ => none }
def UtfEachWrongFalsely : Prop := utfEachRow.holds Try.pinned (OpenSpec.ofChange utfEachWrong)

/-- 'affidavitlaw03.UtfDecodes': WHATEVER THE INPUT: true; the input reads as it did. -/
def utfDecodesSpec : ChangeSpec := { name := "utfDecodes", fn := fun _ => fun
  | [d1, d2] => { results := [.lit (.bool true)], args := [d1, d2] }
  | _ => none }
def utfDecodesRow : OpenClaim := { program := "ytmdgopclcdmenaa", sum := "5f73e1c2dc686b07ff74eb392569a54e69569772c781a91642d9dc5a9da6d50f", func := "affidavit/affidavitlaw03.UtfDecodes", spec := "utfDecodes", inPlace := ["internal/reflectlite.TypeOf"], unfollowed := true, recurses := true, apart := false }
def UtfDecodesSaid : Prop := utfDecodesRow.holds Try.pinned (OpenSpec.ofChange utfDecodesSpec)

/-- ITS FALSE NEIGHBOUR: 'it returns false'. Refute it at one input. -/
def utfDecodesWrong : ChangeSpec := { name := "utfDecodes", fn := fun _ => fun
  | [d1, d2] => { results := [.lit (.bool false)], args := [d1, d2] }
  | _ => none }
def UtfDecodesWrongFalsely : Prop := utfDecodesRow.holds Try.pinned (OpenSpec.ofChange utfDecodesWrong)

/-- 'affidavitlaw03.UtfCompares': WHATEVER THE INPUT: true; the input reads as it did. -/
def utfComparesSpec : ChangeSpec := { name := "utfCompares", fn := fun _ => fun
  | [d1, d2] => { results := [.lit (.bool true)], args := [d1, d2] }
  | _ => none }
def utfComparesRow : OpenClaim := { program := "ytmdgopclcdmenaa", sum := "5f73e1c2dc686b07ff74eb392569a54e69569772c781a91642d9dc5a9da6d50f", func := "affidavit/affidavitlaw03.UtfCompares", spec := "utfCompares", apart := false }
def UtfComparesSaid : Prop := utfComparesRow.holds Try.pinned (OpenSpec.ofChange utfComparesSpec)

/-- ITS FALSE NEIGHBOUR: 'it returns false'. Refute it at one input. -/
def utfComparesWrong : ChangeSpec := { name := "utfCompares", fn := fun _ => fun
  | [d1, d2] => { results := [.lit (.bool false)], args := [d1, d2] }
  | _ => none }
def UtfComparesWrongFalsely : Prop := utfComparesRow.holds Try.pinned (OpenSpec.ofChange utfComparesWrong)

/-- 'affidavitlaw03.UtfOrder': WHATEVER THE INPUT: true; the input reads as it did. -/
def utfOrderSpec : ChangeSpec := { name := "utfOrder", fn := fun _ => fun
  | [d1, d2, d3] => { results := [.lit (.bool true)], args := [d1, d2, d3] }
  | _ => none }
def utfOrderRow : OpenClaim := { program := "ytmdgopclcdmenaa", sum := "5f73e1c2dc686b07ff74eb392569a54e69569772c781a91642d9dc5a9da6d50f", func := "affidavit/affidavitlaw03.UtfOrder", spec := "utfOrder", apart := false }
def UtfOrderSaid : Prop := utfOrderRow.holds Try.pinned (OpenSpec.ofChange utfOrderSpec)

/-- ITS FALSE NEIGHBOUR: 'it returns false'. Refute it at one input. -/
def utfOrderWrong : ChangeSpec := { name := "utfOrder", fn := fun _ => fun
  | [d1, d2, d3] => { results := [.lit (.bool false)], args := [d1, d2, d3] }
  | _ => none }
def UtfOrderWrongFalsely : Prop := utfOrderRow.holds Try.pinned (OpenSpec.ofChange utfOrderWrong)

/-- 'affidavitlaw03.UtfFeeds': WHATEVER THE INPUT: true; the input reads as it did. -/
def utfFeedsSpec : ChangeSpec := { name := "utfFeeds", fn := fun _ => fun
  | [d] => { results := [.lit (.bool true)], args := [d] }
  | _ => none }
def utfFeedsRow : OpenClaim := { program := "ytmdgopclcdmenaa", sum := "5f73e1c2dc686b07ff74eb392569a54e69569772c781a91642d9dc5a9da6d50f", func := "affidavit/affidavitlaw03.UtfFeeds", spec := "utfFeeds", inPlace := ["internal/reflectlite.TypeOf"], unfollowed := true, recurses := true, apart := false }
def UtfFeedsSaid : Prop := utfFeedsRow.holds Try.pinned (OpenSpec.ofChange utfFeedsSpec)

/-- ITS FALSE NEIGHBOUR: 'it returns false'. Refute it at one input. -/
def utfFeedsWrong : ChangeSpec := { name := "utfFeeds", fn := fun _ => fun
  | [d] => { results := [.lit (.bool false)], args := [d] }
  | _ => none }
def UtfFeedsWrongFalsely : Prop := utfFeedsRow.holds Try.pinned (OpenSpec.ofChange utfFeedsWrong)

/-- 'affidavitlaw03.UtfPieces': WHATEVER THE INPUT: true; the input reads as it did. -/
def utfPiecesSpec : ChangeSpec := { name := "utfPieces", fn := fun _ => fun
  | [d1, d2] => { results := [.lit (.bool true)], args := [d1, d2] }
  | _ => none }
def utfPiecesRow : OpenClaim := { program := "ytmdgopclcdmenaa", sum := "5f73e1c2dc686b07ff74eb392569a54e69569772c781a91642d9dc5a9da6d50f", func := "affidavit/affidavitlaw03.UtfPieces", spec := "utfPieces", inPlace := ["internal/reflectlite.TypeOf"], unfollowed := true, recurses := true, apart := false }
def UtfPiecesSaid : Prop := utfPiecesRow.holds Try.pinned (OpenSpec.ofChange utfPiecesSpec)

/-- ITS FALSE NEIGHBOUR: 'it returns false'. Refute it at one input. -/
def utfPiecesWrong : ChangeSpec := { name := "utfPieces", fn := fun _ => fun
  | [d1, d2] => { results := [.lit (.bool false)], args := [d1, d2] }
  | _ => none }
def UtfPiecesWrongFalsely : Prop := utfPiecesRow.holds Try.pinned (OpenSpec.ofChange utfPiecesWrong)

/-- 'affidavitlaw03.UtfChecks': WHATEVER THE INPUT: true; the input reads as it did. -/
def utfChecksSpec : ChangeSpec := { name := "utfChecks", fn := fun _ => fun
  | [d] => { results := [.lit (.bool true)], args := [d] }
  | _ => none }
def utfChecksRow : OpenClaim := { program := "ytmdgopclcdmenaa", sum := "5f73e1c2dc686b07ff74eb392569a54e69569772c781a91642d9dc5a9da6d50f", func := "affidavit/affidavitlaw03.UtfChecks", spec := "utfChecks", inPlace := ["internal/reflectlite.TypeOf"], unfollowed := true, recurses := true, apart := false }
def UtfChecksSaid : Prop := utfChecksRow.holds Try.pinned (OpenSpec.ofChange utfChecksSpec)

/-- ITS FALSE NEIGHBOUR: 'it returns false'. Refute it at one input. -/
def utfChecksWrong : ChangeSpec := { name := "utfChecks", fn := fun _ => fun
  | [d] => { results := [.lit (.bool false)], args := [d] }
  | _ => none }
def UtfChecksWrongFalsely : Prop := utfChecksRow.holds Try.pinned (OpenSpec.ofChange utfChecksWrong)

/-- 'affidavitlaw03.UtfUnits': WHATEVER THE INPUT: true; the input reads as it did. -/
def utfUnitsSpec : ChangeSpec := { name := "utfUnits", fn := fun _ => fun
  | [d] => { results := [.lit (.bool true)], args := [d] }
  | _ => none }
def utfUnitsRow : OpenClaim := { program := "ytmdgopclcdmenaa", sum := "5f73e1c2dc686b07ff74eb392569a54e69569772c781a91642d9dc5a9da6d50f", func := "affidavit/affidavitlaw03.UtfUnits", spec := "utfUnits", inPlace := ["internal/reflectlite.TypeOf", "internal/abi.NoEscape"], unfollowed := true, recurses := true, apart := false }
def UtfUnitsSaid : Prop := utfUnitsRow.holds Try.pinned (OpenSpec.ofChange utfUnitsSpec)

/-- ITS FALSE NEIGHBOUR: 'it returns false'. Refute it at one input. -/
def utfUnitsWrong : ChangeSpec := { name := "utfUnits", fn := fun _ => fun
  | [d] => { results := [.lit (.bool false)], args := [d] }
  | _ => none }
def UtfUnitsWrongFalsely : Prop := utfUnitsRow.holds Try.pinned (OpenSpec.ofChange utfUnitsWrong)

/-- 'affidavitlaw03.UtfFromUnits': WHATEVER THE INPUT: true; the input reads as it did. -/
def utfFromUnitsSpec : ChangeSpec := { name := "utfFromUnits", fn := fun _ => fun
  | [d] => { results := [.lit (.bool true)], args := [d] }
  | _ => none }
def utfFromUnitsRow : OpenClaim := { program := "ytmdgopclcdmenaa", sum := "5f73e1c2dc686b07ff74eb392569a54e69569772c781a91642d9dc5a9da6d50f", func := "affidavit/affidavitlaw03.UtfFromUnits", spec := "utfFromUnits", inPlace := ["internal/abi.NoEscape", "internal/reflectlite.TypeOf"], unfollowed := true, recurses := true, apart := false }
def UtfFromUnitsSaid : Prop := utfFromUnitsRow.holds Try.pinned (OpenSpec.ofChange utfFromUnitsSpec)

/-- ITS FALSE NEIGHBOUR: 'it returns false'. Refute it at one input. -/
def utfFromUnitsWrong : ChangeSpec := { name := "utfFromUnits", fn := fun _ => fun
  | [d] => { results := [.lit (.bool false)], args := [d] }
  | _ => none }
def UtfFromUnitsWrongFalsely : Prop := utfFromUnitsRow.holds Try.pinned (OpenSpec.ofChange utfFromUnitsWrong)

/- THE SECOND FORM. 'bulk': how many values and letters a reading holds, each counted each time it is reached (what is shared counts as often as it is met; a slice's spare places count too). A statement '..UptoSaid' is the law's where the arguments, and the package variables that the reading takes, are together of bulk at most 1048576: NARROWER than '..Said'. Prove '..Said' where nothing that the law and all that it calls make is longer than what came in: it says more and counts as full. Else prove '..UptoSaid'. A law counts once. -/
mutual
def uptoBulk {H : Type} : DataW H → Nat
  | .lit (.string bytes) => bytes.length + 1
  | .lit _ => 1
  | .nil => 1
  | .ptr d => uptoBulk d + 1
  | .slice elems spare => uptoBulkAll elems + uptoBulkAll spare + 1
  | .agg parts => uptoBulkAll parts + 1
  | .iface _ d => uptoBulk d + 1
  | .map entries => uptoBulkEntries entries + 1
  | .held _ => 1
def uptoBulkAll {H : Type} : List (DataW H) → Nat
  | [] => 0
  | d :: r => uptoBulk d + uptoBulkAll r
def uptoBulkEntries {H : Type} : List (Lit × DataW H) → Nat
  | [] => 0
  | x :: r => uptoBulkEntry x + uptoBulkEntries r
def uptoBulkEntry {H : Type} : Lit × DataW H → Nat
  | (.string bytes, d) => bytes.length + uptoBulk d + 1
  | (_, d) => uptoBulk d + 1
 end
def uptoSmall : (H : Type) → List (DataW H) → Bool := fun _ ds => decide (uptoBulkAll ds ≤ 1048576)
def OpenSpec.upto (s : _root_.Go.ChangeSpec) : _root_.Go.OpenSpec := { _root_.Go.OpenSpec.ofChange s with cond := some uptoSmall }

/-- 'affidavitlaw03.UtfEncodes', WHERE WHAT IT READS IS OF BULK AT MOST 1048576: true; the input reads as it did. -/
def utfEncodesUptoRow : OpenClaim := { program := "ytmdgopclcdmenaa", sum := "5f73e1c2dc686b07ff74eb392569a54e69569772c781a91642d9dc5a9da6d50f", func := "affidavit/affidavitlaw03.UtfEncodes", spec := "utfEncodes", apart := false, narrowed := true }
def UtfEncodesUptoSaid : Prop := utfEncodesUptoRow.holds Try.pinned (OpenSpec.upto utfEncodesSpec)

/-- 'affidavitlaw03.UtfNames', WHERE WHAT IT READS IS OF BULK AT MOST 1048576: true; the input reads as it did. -/
def utfNamesUptoRow : OpenClaim := { program := "ytmdgopclcdmenaa", sum := "5f73e1c2dc686b07ff74eb392569a54e69569772c781a91642d9dc5a9da6d50f", func := "affidavit/affidavitlaw03.UtfNames", spec := "utfNames", apart := false, narrowed := true }
def UtfNamesUptoSaid : Prop := utfNamesUptoRow.holds Try.pinned (OpenSpec.upto utfNamesSpec)

/-- 'affidavitlaw03.UtfEach', WHERE WHAT IT READS IS OF BULK AT MOST 1048576: true; the input reads as it did. -/
def utfEachUptoRow : OpenClaim := { program := "ytmdgopclcdmenaa", sum := "5f73e1c2dc686b07ff74eb392569a54e69569772c781a91642d9dc5a9da6d50f", func := "affidavit/affidavitlaw03.UtfEach", spec := "utfEach", unfollowed := true, recurses := true, apart := false, narrowed := true }
def UtfEachUptoSaid : Prop := utfEachUptoRow.holds Try.pinned (OpenSpec.upto utfEachSpec)

/-- 'affidavitlaw03.UtfDecodes', WHERE WHAT IT READS IS OF BULK AT MOST 1048576: true; the input reads as it did. -/
def utfDecodesUptoRow : OpenClaim := { program := "ytmdgopclcdmenaa", sum := "5f73e1c2dc686b07ff74eb392569a54e69569772c781a91642d9dc5a9da6d50f", func := "affidavit/affidavitlaw03.UtfDecodes", spec := "utfDecodes", inPlace := ["internal/reflectlite.TypeOf"], unfollowed := true, recurses := true, apart := false, narrowed := true }
def UtfDecodesUptoSaid : Prop := utfDecodesUptoRow.holds Try.pinned (OpenSpec.upto utfDecodesSpec)

/-- 'affidavitlaw03.UtfCompares', WHERE WHAT IT READS IS OF BULK AT MOST 1048576: true; the input reads as it did. -/
def utfComparesUptoRow : OpenClaim := { program := "ytmdgopclcdmenaa", sum := "5f73e1c2dc686b07ff74eb392569a54e69569772c781a91642d9dc5a9da6d50f", func := "affidavit/affidavitlaw03.UtfCompares", spec := "utfCompares", apart := false, narrowed := true }
def UtfComparesUptoSaid : Prop := utfComparesUptoRow.holds Try.pinned (OpenSpec.upto utfComparesSpec)

/-- 'affidavitlaw03.UtfOrder', WHERE WHAT IT READS IS OF BULK AT MOST 1048576: true; the input reads as it did. -/
def utfOrderUptoRow : OpenClaim := { program := "ytmdgopclcdmenaa", sum := "5f73e1c2dc686b07ff74eb392569a54e69569772c781a91642d9dc5a9da6d50f", func := "affidavit/affidavitlaw03.UtfOrder", spec := "utfOrder", apart := false, narrowed := true }
def UtfOrderUptoSaid : Prop := utfOrderUptoRow.holds Try.pinned (OpenSpec.upto utfOrderSpec)

/-- 'affidavitlaw03.UtfFeeds', WHERE WHAT IT READS IS OF BULK AT MOST 1048576: true; the input reads as it did. -/
def utfFeedsUptoRow : OpenClaim := { program := "ytmdgopclcdmenaa", sum := "5f73e1c2dc686b07ff74eb392569a54e69569772c781a91642d9dc5a9da6d50f", func := "affidavit/affidavitlaw03.UtfFeeds", spec := "utfFeeds", inPlace := ["internal/reflectlite.TypeOf"], unfollowed := true, recurses := true, apart := false, narrowed := true }
def UtfFeedsUptoSaid : Prop := utfFeedsUptoRow.holds Try.pinned (OpenSpec.upto utfFeedsSpec)

/-- 'affidavitlaw03.UtfPieces', WHERE WHAT IT READS IS OF BULK AT MOST 1048576: true; the input reads as it did. -/
def utfPiecesUptoRow : OpenClaim := { program := "ytmdgopclcdmenaa", sum := "5f73e1c2dc686b07ff74eb392569a54e69569772c781a91642d9dc5a9da6d50f", func := "affidavit/affidavitlaw03.UtfPieces", spec := "utfPieces", inPlace := ["internal/reflectlite.TypeOf"], unfollowed := true, recurses := true, apart := false, narrowed := true }
def UtfPiecesUptoSaid : Prop := utfPiecesUptoRow.holds Try.pinned (OpenSpec.upto utfPiecesSpec)

/-- 'affidavitlaw03.UtfChecks', WHERE WHAT IT READS IS OF BULK AT MOST 1048576: true; the input reads as it did. -/
def utfChecksUptoRow : OpenClaim := { program := "ytmdgopclcdmenaa", sum := "5f73e1c2dc686b07ff74eb392569a54e69569772c781a91642d9dc5a9da6d50f", func := "affidavit/affidavitlaw03.UtfChecks", spec := "utfChecks", inPlace := ["internal/reflectlite.TypeOf"], unfollowed := true, recurses := true, apart := false, narrowed := true }
def UtfChecksUptoSaid : Prop := utfChecksUptoRow.holds Try.pinned (OpenSpec.upto utfChecksSpec)

/-- 'affidavitlaw03.UtfUnits', WHERE WHAT IT READS IS OF BULK AT MOST 1048576: true; the input reads as it did. -/
def utfUnitsUptoRow : OpenClaim := { program := "ytmdgopclcdmenaa", sum := "5f73e1c2dc686b07ff74eb392569a54e69569772c781a91642d9dc5a9da6d50f", func := "affidavit/affidavitlaw03.UtfUnits", spec := "utfUnits", inPlace := ["internal/reflectlite.TypeOf", "internal/abi.NoEscape"], unfollowed := true, recurses := true, apart := false, narrowed := true }
def UtfUnitsUptoSaid : Prop := utfUnitsUptoRow.holds Try.pinned (OpenSpec.upto utfUnitsSpec)

/-- 'affidavitlaw03.UtfFromUnits', WHERE WHAT IT READS IS OF BULK AT MOST 1048576: true; the input reads as it did. -/
def utfFromUnitsUptoRow : OpenClaim := { program := "ytmdgopclcdmenaa", sum := "5f73e1c2dc686b07ff74eb392569a54e69569772c781a91642d9dc5a9da6d50f", func := "affidavit/affidavitlaw03.UtfFromUnits", spec := "utfFromUnits", inPlace := ["internal/abi.NoEscape", "internal/reflectlite.TypeOf"], unfollowed := true, recurses := true, apart := false, narrowed := true }
def UtfFromUnitsUptoSaid : Prop := utfFromUnitsUptoRow.holds Try.pinned (OpenSpec.upto utfFromUnitsSpec)

end Rows
end Go.Proofs.Ytmdgopclcdmenaa
