/-
  DERIVED. GIVEN WITH THE SEED: THE CARDS: each row of YtnajondbdeclmaaDoorRows.lean that lists a variable, with what it lists TIED to the program's text (the seventh form; the later family's looks); each row that meets fmt, with fmt's text TOLD by the authors' own Lean function (tested against real Go, not proved from fmt's source: count such statements apart). THE CARD IS WHAT COUNTS. Prove the row's statement (the work); the ties are given (YtnajondbdeclmaaDoorTie.lean); close each card by the builder's one call (the guide's Derived/Test/ToyasCard.lean, 'card_holds'). Laid BY PROGRAM, IN A SANDBOX (cutbox-door.mjs). By AI agents, Wed Nov 11 2026. No macro, syntax, notation, axiom, sorry.
-/
import Derived.Test.YtnajondbdeclmaaDoorRows
import GoSem.ClaimSeven
namespace Go.Proofs.YtnajondbdeclmaaDoor
namespace Rows

/-- THE TIED CARD OF 'affidavitlaw05.DigitsUnlike'. -/
def digitsUnlikeCard : Claim7 := { stood := { row := digitsUnlikeRow, standIns := [], harness := (true, "fb2ca23cbae6012a2b9f175c2c939acc64a731d7fff1a4af2b2206a4b489afcb"), looks := false }, kinds := [], alts := [], laidByText := true, laidKinds := [.data, .data, .data, .data, .pinned], laidTests := true, laidLooks := .later }
def DigitsUnlikeCardSaid : Prop := Claim7.holds Tryd.pinned (.plain (OpenSpec.ofChange digitsUnlikeSpec)) digitsUnlikeCard

/-- THE SECOND FORM's CARD OF 'affidavitlaw05.DigitsUnlike'. -/
def digitsUnlikeUptoCard : Claim7 := { stood := { row := digitsUnlikeUptoRow, standIns := [], harness := (true, "fb2ca23cbae6012a2b9f175c2c939acc64a731d7fff1a4af2b2206a4b489afcb"), looks := false }, kinds := [], alts := [], laidByText := true, laidKinds := [.data, .data, .data, .data, .pinned], laidTests := true, laidLooks := .later }
def DigitsUnlikeUptoCardSaid : Prop := Claim7.holds Tryd.pinned (.plain (OpenSpec.upto digitsUnlikeSpec)) digitsUnlikeUptoCard
end Rows
end Go.Proofs.YtnajondbdeclmaaDoor
