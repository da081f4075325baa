/-
  DERIVED. GIVEN WITH THE SEED: THE CARDS: each row of YtjggmdlecdbeeaaGreatDoorRows.lean that lists a variable, with what it lists TIED to the program's text (the seventh form; the later family's looks); each row that meets fmt, with fmt's text TOLD by the authors' own Lean function (tested against real Go, not proved from fmt's source: count such statements apart). THE CARD IS WHAT COUNTS. Prove the row's statement (the work); the ties are given (YtjggmdlecdbeeaaGreatDoorTie.lean); close each card by the builder's one call (the guide's Derived/Test/ToyasCard.lean, 'card_holds'). Laid BY PROGRAM, IN A SANDBOX (cutbox-door.mjs). By AI agents, Wed Nov 11 2026. No macro, syntax, notation, axiom, sorry.
-/
import Derived.Test.YtjggmdlecdbeeaaGreatDoorRows
import GoSem.ClaimSeven
namespace Go.Proofs.YtjggmdlecdbeeaaGreatDoor
namespace Rows

/-- THE TIED CARD OF 'affidavitlaw04.DecValues'. -/
def decValuesCard : Claim7 := { stood := { row := decValuesRow, standIns := [], harness := (true, "989f81bffa6b1a480b2e2b6ae51e951fa62c9cc35852a5ea13b95d4ef81a89ca"), looks := true }, kinds := [], alts := [], laidByText := true, laidKinds := [.data, .data, .data, .data, .pinned], laidTests := true, laidLooks := .later }
def DecValuesCardSaid : Prop := Claim7.holds Tryz.pinned (.plain (OpenSpec.ofChange decValuesSpec)) decValuesCard

/-- THE TIED CARD OF 'affidavitlaw04.DecMoves'. -/
def decMovesCard : Claim7 := { stood := { row := decMovesRow, standIns := [], harness := (true, "989f81bffa6b1a480b2e2b6ae51e951fa62c9cc35852a5ea13b95d4ef81a89ca"), looks := true }, kinds := [], alts := [], laidByText := true, laidKinds := [.data, .data, .data, .data, .pinned], laidTests := true, laidLooks := .later }
def DecMovesCardSaid : Prop := Claim7.holds Tryz.pinned (.plain (OpenSpec.ofChange decMovesSpec)) decMovesCard

/-- THE SECOND FORM's CARD OF 'affidavitlaw04.DecValues'. -/
def decValuesUptoCard : Claim7 := { stood := { row := decValuesUptoRow, standIns := [], harness := (true, "989f81bffa6b1a480b2e2b6ae51e951fa62c9cc35852a5ea13b95d4ef81a89ca"), looks := true }, kinds := [], alts := [], laidByText := true, laidKinds := [.data, .data, .data, .data, .pinned], laidTests := true, laidLooks := .later }
def DecValuesUptoCardSaid : Prop := Claim7.holds Tryz.pinned (.plain (OpenSpec.upto decValuesSpec)) decValuesUptoCard

/-- THE SECOND FORM's CARD OF 'affidavitlaw04.DecMoves'. -/
def decMovesUptoCard : Claim7 := { stood := { row := decMovesUptoRow, standIns := [], harness := (true, "989f81bffa6b1a480b2e2b6ae51e951fa62c9cc35852a5ea13b95d4ef81a89ca"), looks := true }, kinds := [], alts := [], laidByText := true, laidKinds := [.data, .data, .data, .data, .pinned], laidTests := true, laidLooks := .later }
def DecMovesUptoCardSaid : Prop := Claim7.holds Tryz.pinned (.plain (OpenSpec.upto decMovesSpec)) decMovesUptoCard
end Rows
end Go.Proofs.YtjggmdlecdbeeaaGreatDoor
