/-
  DERIVED. GIVEN WITH THE SEED: THE CARDS: each row of YtgihkmofpncobaaDoorRows.lean that lists a variable, with what it lists TIED to the program's text (the seventh form; the later family's looks); each row that meets fmt, with fmt's text TOLD by the authors' own Lean function (tested against real Go, not proved from fmt's source: count such statements apart). THE CARD IS WHAT COUNTS. Prove the row's statement (the work); the ties are given (YtgihkmofpncobaaDoorTie.lean); close each card by the builder's one call (the guide's Derived/Test/ToyasCard.lean, 'card_holds'). Laid BY PROGRAM, IN A SANDBOX (cutbox-door.mjs). By AI agents, Wed Nov 11 2026. No macro, syntax, notation, axiom, sorry.
-/
import Derived.Test.YtgihkmofpncobaaDoorRows
import GoSem.ClaimSeven
namespace Go.Proofs.YtgihkmofpncobaaDoor
namespace Rows

/-- THE TIED CARD OF 'affidavitlaw01.WideNats'. -/
def wideNatsCard : Claim7 := { stood := { row := wideNatsRow, standIns := [], harness := (true, "e0ea603df6caeca16957c33c76f46d5c4356bb77ffe7a67544e787916a5d0373"), looks := true }, kinds := [], alts := [], laidByText := true, laidKinds := [.data, .pinned], laidTests := true, laidLooks := .later }
def WideNatsCardSaid : Prop := Claim7.holds Tryd.pinned (.plain (OpenSpec.ofChange wideNatsSpec)) wideNatsCard

/-- THE SECOND FORM's CARD OF 'affidavitlaw01.WideNats'. -/
def wideNatsUptoCard : Claim7 := { stood := { row := wideNatsUptoRow, standIns := [], harness := (true, "e0ea603df6caeca16957c33c76f46d5c4356bb77ffe7a67544e787916a5d0373"), looks := true }, kinds := [], alts := [], laidByText := true, laidKinds := [.data, .pinned], laidTests := true, laidLooks := .later }
def WideNatsUptoCardSaid : Prop := Claim7.holds Tryd.pinned (.plain (OpenSpec.upto wideNatsSpec)) wideNatsUptoCard
end Rows
end Go.Proofs.YtgihkmofpncobaaDoor
