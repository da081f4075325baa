/-
  DERIVED. GIVEN WITH THE SEED: THE CARDS: each row of YtnajondbdeclmaaGreatDoorRows.lean that lists a variable, with what it lists TIED to the program's text (the seventh form; the later family's looks); each row that meets fmt, with fmt's text TOLD by the authors' own Lean function (tested against real Go, not proved from fmt's source: count such statements apart). THE CARD IS WHAT COUNTS. Prove the row's statement (the work); the ties are given (YtnajondbdeclmaaGreatDoorTie.lean); close each card by the builder's one call (the guide's Derived/Test/ToyasCard.lean, 'card_holds'). Laid BY PROGRAM, IN A SANDBOX (cutbox-door.mjs). By AI agents, Wed Nov 11 2026. No macro, syntax, notation, axiom, sorry.
-/
import Derived.Test.YtnajondbdeclmaaGreatDoorRows
import GoSem.ClaimSeven
namespace Go.Proofs.YtnajondbdeclmaaGreatDoor
namespace Rows

/-- THE TIED CARD OF 'affidavitlaw05.DigitsShort'. -/
def digitsShortCard : Claim7 := { stood := { row := digitsShortRow, standIns := [], harness := (true, "7581486216cc1869ae9fa4d8c8ff56037476f76eef62088e049a875af8e9f09a"), looks := true }, kinds := [], alts := [], laidByText := true, laidKinds := [.data, .data, .data, .data, .pinned], laidTests := true, laidLooks := .later }
def DigitsShortCardSaid : Prop := Claim7.holds Tryz.pinned (.plain (OpenSpec.ofChange digitsShortSpec)) digitsShortCard

/-- THE TIED CARD OF 'affidavitlaw05.DigitsTexts'. -/
def digitsTextsCard : Claim7 := { stood := { row := digitsTextsRow, standIns := [], harness := (true, "7581486216cc1869ae9fa4d8c8ff56037476f76eef62088e049a875af8e9f09a"), looks := true }, kinds := [], alts := [], laidByText := true, laidKinds := [.data, .data, .data, .data, .pinned], laidTests := true, laidLooks := .later }
def DigitsTextsCardSaid : Prop := Claim7.holds Tryz.pinned (.plain (OpenSpec.ofChange digitsTextsSpec)) digitsTextsCard

/-- THE TIED CARD OF 'affidavitlaw05.DigitsExact'. -/
def digitsExactCard : Claim7 := { stood := { row := digitsExactRow, standIns := [], harness := (true, "7581486216cc1869ae9fa4d8c8ff56037476f76eef62088e049a875af8e9f09a"), looks := true }, kinds := [], alts := [], laidByText := true, laidKinds := [.data, .data, .data, .data, .pinned], laidTests := true, laidLooks := .later }
def DigitsExactCardSaid : Prop := Claim7.holds Tryz.pinned (.plain (OpenSpec.ofChange digitsExactSpec)) digitsExactCard

/-- THE TIED CARD OF 'affidavitlaw05.DigitsRounded'. -/
def digitsRoundedCard : Claim7 := { stood := { row := digitsRoundedRow, standIns := [], harness := (true, "7581486216cc1869ae9fa4d8c8ff56037476f76eef62088e049a875af8e9f09a"), looks := true }, kinds := [], alts := [], laidByText := true, laidKinds := [.data, .data, .data, .data, .pinned], laidTests := true, laidLooks := .later }
def DigitsRoundedCardSaid : Prop := Claim7.holds Tryz.pinned (.plain (OpenSpec.ofChange digitsRoundedSpec)) digitsRoundedCard

/-- THE TIED CARD OF 'affidavitlaw05.DigitsKnown'. -/
def digitsKnownCard : Claim7 := { stood := { row := digitsKnownRow, standIns := [], harness := (true, "7581486216cc1869ae9fa4d8c8ff56037476f76eef62088e049a875af8e9f09a"), looks := true }, kinds := [], alts := [], laidByText := true, laidKinds := [.data, .data, .data, .data, .pinned], laidTests := true, laidLooks := .later }
def DigitsKnownCardSaid : Prop := Claim7.holds Tryz.pinned (.plain (OpenSpec.ofChange digitsKnownSpec)) digitsKnownCard

/-- THE TIED CARD OF 'affidavitlaw05.DigitsNear'. -/
def digitsNearCard : Claim7 := { stood := { row := digitsNearRow, standIns := [], harness := (true, "7581486216cc1869ae9fa4d8c8ff56037476f76eef62088e049a875af8e9f09a"), looks := true }, kinds := [], alts := [], laidByText := true, laidKinds := [.data, .data, .data, .data, .pinned], laidTests := true, laidLooks := .later }
def DigitsNearCardSaid : Prop := Claim7.holds Tryz.pinned (.plain (OpenSpec.ofChange digitsNearSpec)) digitsNearCard

/-- THE TIED CARD OF 'affidavitlaw05.DigitsBack'. -/
def digitsBackCard : Claim7 := { stood := { row := digitsBackRow, standIns := [], harness := (true, "7581486216cc1869ae9fa4d8c8ff56037476f76eef62088e049a875af8e9f09a"), looks := true }, kinds := [], alts := [], laidByText := true, laidKinds := [.data, .data, .data, .data, .pinned], laidTests := true, laidLooks := .later }
def DigitsBackCardSaid : Prop := Claim7.holds Tryz.pinned (.plain (OpenSpec.ofChange digitsBackSpec)) digitsBackCard

/-- THE TIED CARD OF 'affidavitlaw05.DigitsFewest'. -/
def digitsFewestCard : Claim7 := { stood := { row := digitsFewestRow, standIns := [], harness := (true, "7581486216cc1869ae9fa4d8c8ff56037476f76eef62088e049a875af8e9f09a"), looks := true }, kinds := [], alts := [], laidByText := true, laidKinds := [.data, .data, .data, .data, .pinned], laidTests := true, laidLooks := .later }
def DigitsFewestCardSaid : Prop := Claim7.holds Tryz.pinned (.plain (OpenSpec.ofChange digitsFewestSpec)) digitsFewestCard

/-- THE TIED CARD OF 'affidavitlaw05.DigitsSide'. -/
def digitsSideCard : Claim7 := { stood := { row := digitsSideRow, standIns := [], harness := (true, "7581486216cc1869ae9fa4d8c8ff56037476f76eef62088e049a875af8e9f09a"), looks := true }, kinds := [], alts := [], laidByText := true, laidKinds := [.data, .data, .data, .data, .pinned], laidTests := true, laidLooks := .later }
def DigitsSideCardSaid : Prop := Claim7.holds Tryz.pinned (.plain (OpenSpec.ofChange digitsSideSpec)) digitsSideCard

/-- THE TIED CARD OF 'affidavitlaw05.DigitsAll'. -/
def digitsAllCard : Claim7 := { stood := { row := digitsAllRow, standIns := [], harness := (true, "7581486216cc1869ae9fa4d8c8ff56037476f76eef62088e049a875af8e9f09a"), looks := true }, kinds := [], alts := [], laidByText := true, laidKinds := [.data, .data, .data, .data, .pinned], laidTests := true, laidLooks := .later }
def DigitsAllCardSaid : Prop := Claim7.holds Tryz.pinned (.plain (OpenSpec.ofChange digitsAllSpec)) digitsAllCard

/-- THE SECOND FORM's CARD OF 'affidavitlaw05.DigitsShort'. -/
def digitsShortUptoCard : Claim7 := { stood := { row := digitsShortUptoRow, standIns := [], harness := (true, "7581486216cc1869ae9fa4d8c8ff56037476f76eef62088e049a875af8e9f09a"), looks := true }, kinds := [], alts := [], laidByText := true, laidKinds := [.data, .data, .data, .data, .pinned], laidTests := true, laidLooks := .later }
def DigitsShortUptoCardSaid : Prop := Claim7.holds Tryz.pinned (.plain (OpenSpec.upto digitsShortSpec)) digitsShortUptoCard

/-- THE SECOND FORM's CARD OF 'affidavitlaw05.DigitsTexts'. -/
def digitsTextsUptoCard : Claim7 := { stood := { row := digitsTextsUptoRow, standIns := [], harness := (true, "7581486216cc1869ae9fa4d8c8ff56037476f76eef62088e049a875af8e9f09a"), looks := true }, kinds := [], alts := [], laidByText := true, laidKinds := [.data, .data, .data, .data, .pinned], laidTests := true, laidLooks := .later }
def DigitsTextsUptoCardSaid : Prop := Claim7.holds Tryz.pinned (.plain (OpenSpec.upto digitsTextsSpec)) digitsTextsUptoCard

/-- THE SECOND FORM's CARD OF 'affidavitlaw05.DigitsExact'. -/
def digitsExactUptoCard : Claim7 := { stood := { row := digitsExactUptoRow, standIns := [], harness := (true, "7581486216cc1869ae9fa4d8c8ff56037476f76eef62088e049a875af8e9f09a"), looks := true }, kinds := [], alts := [], laidByText := true, laidKinds := [.data, .data, .data, .data, .pinned], laidTests := true, laidLooks := .later }
def DigitsExactUptoCardSaid : Prop := Claim7.holds Tryz.pinned (.plain (OpenSpec.upto digitsExactSpec)) digitsExactUptoCard

/-- THE SECOND FORM's CARD OF 'affidavitlaw05.DigitsRounded'. -/
def digitsRoundedUptoCard : Claim7 := { stood := { row := digitsRoundedUptoRow, standIns := [], harness := (true, "7581486216cc1869ae9fa4d8c8ff56037476f76eef62088e049a875af8e9f09a"), looks := true }, kinds := [], alts := [], laidByText := true, laidKinds := [.data, .data, .data, .data, .pinned], laidTests := true, laidLooks := .later }
def DigitsRoundedUptoCardSaid : Prop := Claim7.holds Tryz.pinned (.plain (OpenSpec.upto digitsRoundedSpec)) digitsRoundedUptoCard

/-- THE SECOND FORM's CARD OF 'affidavitlaw05.DigitsKnown'. -/
def digitsKnownUptoCard : Claim7 := { stood := { row := digitsKnownUptoRow, standIns := [], harness := (true, "7581486216cc1869ae9fa4d8c8ff56037476f76eef62088e049a875af8e9f09a"), looks := true }, kinds := [], alts := [], laidByText := true, laidKinds := [.data, .data, .data, .data, .pinned], laidTests := true, laidLooks := .later }
def DigitsKnownUptoCardSaid : Prop := Claim7.holds Tryz.pinned (.plain (OpenSpec.upto digitsKnownSpec)) digitsKnownUptoCard

/-- THE SECOND FORM's CARD OF 'affidavitlaw05.DigitsNear'. -/
def digitsNearUptoCard : Claim7 := { stood := { row := digitsNearUptoRow, standIns := [], harness := (true, "7581486216cc1869ae9fa4d8c8ff56037476f76eef62088e049a875af8e9f09a"), looks := true }, kinds := [], alts := [], laidByText := true, laidKinds := [.data, .data, .data, .data, .pinned], laidTests := true, laidLooks := .later }
def DigitsNearUptoCardSaid : Prop := Claim7.holds Tryz.pinned (.plain (OpenSpec.upto digitsNearSpec)) digitsNearUptoCard

/-- THE SECOND FORM's CARD OF 'affidavitlaw05.DigitsBack'. -/
def digitsBackUptoCard : Claim7 := { stood := { row := digitsBackUptoRow, standIns := [], harness := (true, "7581486216cc1869ae9fa4d8c8ff56037476f76eef62088e049a875af8e9f09a"), looks := true }, kinds := [], alts := [], laidByText := true, laidKinds := [.data, .data, .data, .data, .pinned], laidTests := true, laidLooks := .later }
def DigitsBackUptoCardSaid : Prop := Claim7.holds Tryz.pinned (.plain (OpenSpec.upto digitsBackSpec)) digitsBackUptoCard

/-- THE SECOND FORM's CARD OF 'affidavitlaw05.DigitsFewest'. -/
def digitsFewestUptoCard : Claim7 := { stood := { row := digitsFewestUptoRow, standIns := [], harness := (true, "7581486216cc1869ae9fa4d8c8ff56037476f76eef62088e049a875af8e9f09a"), looks := true }, kinds := [], alts := [], laidByText := true, laidKinds := [.data, .data, .data, .data, .pinned], laidTests := true, laidLooks := .later }
def DigitsFewestUptoCardSaid : Prop := Claim7.holds Tryz.pinned (.plain (OpenSpec.upto digitsFewestSpec)) digitsFewestUptoCard

/-- THE SECOND FORM's CARD OF 'affidavitlaw05.DigitsSide'. -/
def digitsSideUptoCard : Claim7 := { stood := { row := digitsSideUptoRow, standIns := [], harness := (true, "7581486216cc1869ae9fa4d8c8ff56037476f76eef62088e049a875af8e9f09a"), looks := true }, kinds := [], alts := [], laidByText := true, laidKinds := [.data, .data, .data, .data, .pinned], laidTests := true, laidLooks := .later }
def DigitsSideUptoCardSaid : Prop := Claim7.holds Tryz.pinned (.plain (OpenSpec.upto digitsSideSpec)) digitsSideUptoCard

/-- THE SECOND FORM's CARD OF 'affidavitlaw05.DigitsAll'. -/
def digitsAllUptoCard : Claim7 := { stood := { row := digitsAllUptoRow, standIns := [], harness := (true, "7581486216cc1869ae9fa4d8c8ff56037476f76eef62088e049a875af8e9f09a"), looks := true }, kinds := [], alts := [], laidByText := true, laidKinds := [.data, .data, .data, .data, .pinned], laidTests := true, laidLooks := .later }
def DigitsAllUptoCardSaid : Prop := Claim7.holds Tryz.pinned (.plain (OpenSpec.upto digitsAllSpec)) digitsAllUptoCard
end Rows
end Go.Proofs.YtnajondbdeclmaaGreatDoor
