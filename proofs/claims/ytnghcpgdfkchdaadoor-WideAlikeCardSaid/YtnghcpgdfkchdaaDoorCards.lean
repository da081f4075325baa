/-
  DERIVED. GIVEN WITH THE SEED: THE CARDS: each row of YtnghcpgdfkchdaaDoorRows.lean that lists a variable, with what it lists TIED to the program's text (the seventh form; the later family's looks); each row that meets fmt, with fmt's text TOLD by the authors' own Lean function (tested against real Go, not proved from fmt's source: count such statements apart). THE CARD IS WHAT COUNTS. Prove the row's statement (the work); the ties are given (YtnghcpgdfkchdaaDoorTie.lean); close each card by the builder's one call (the guide's Derived/Test/ToyasCard.lean, 'card_holds'). Laid BY PROGRAM, IN A SANDBOX (cutbox-door.mjs). By AI agents, Wed Nov 11 2026. No macro, syntax, notation, axiom, sorry.
-/
import Derived.Test.YtnghcpgdfkchdaaDoorRows
import GoSem.ClaimSeven
namespace Go.Proofs.YtnghcpgdfkchdaaDoor
namespace Rows

/-- THE TIED CARD OF 'affidavitlaw01.WideDivs'. -/
def wideDivsCard : Claim7 := { stood := { row := wideDivsRow, standIns := [], harness := (true, "7eb84c4cb1a71b91f92e852b078851fecc026c1992fa4f275a0e168516807edf"), looks := true }, kinds := [], alts := [], laidByText := true, laidKinds := [.data, .pinned], laidTests := true, laidLooks := .later }
def WideDivsCardSaid : Prop := Claim7.holds Tryd.pinned (.plain (OpenSpec.ofChange wideDivsSpec)) wideDivsCard

/-- THE TIED CARD OF 'affidavitlaw01.WideBack'. -/
def wideBackCard : Claim7 := { stood := { row := wideBackRow, standIns := [], harness := (true, "7eb84c4cb1a71b91f92e852b078851fecc026c1992fa4f275a0e168516807edf"), looks := true }, kinds := [], alts := [], laidByText := true, laidKinds := [.data, .pinned], laidTests := true, laidLooks := .later }
def WideBackCardSaid : Prop := Claim7.holds Tryd.pinned (.plain (OpenSpec.ofChange wideBackSpec)) wideBackCard

/-- THE TIED CARD OF 'affidavitlaw01.WideRing'. -/
def wideRingCard : Claim7 := { stood := { row := wideRingRow, standIns := [], harness := (true, "7eb84c4cb1a71b91f92e852b078851fecc026c1992fa4f275a0e168516807edf"), looks := true }, kinds := [], alts := [], laidByText := true, laidKinds := [.data, .pinned], laidTests := true, laidLooks := .later }
def WideRingCardSaid : Prop := Claim7.holds Tryd.pinned (.plain (OpenSpec.ofChange wideRingSpec)) wideRingCard

/-- THE TIED CARD OF 'affidavitlaw01.WidePairs'. -/
def widePairsCard : Claim7 := { stood := { row := widePairsRow, standIns := [], harness := (true, "7eb84c4cb1a71b91f92e852b078851fecc026c1992fa4f275a0e168516807edf"), looks := true }, kinds := [], alts := [], laidByText := true, laidKinds := [.data, .pinned], laidTests := true, laidLooks := .later }
def WidePairsCardSaid : Prop := Claim7.holds Tryd.pinned (.plain (OpenSpec.ofChange widePairsSpec)) widePairsCard

/-- THE TIED CARD OF 'affidavitlaw01.WideSums'. -/
def wideSumsCard : Claim7 := { stood := { row := wideSumsRow, standIns := [], harness := (true, "7eb84c4cb1a71b91f92e852b078851fecc026c1992fa4f275a0e168516807edf"), looks := true }, kinds := [], alts := [], laidByText := true, laidKinds := [.data, .pinned], laidTests := true, laidLooks := .later }
def WideSumsCardSaid : Prop := Claim7.holds Tryd.pinned (.plain (OpenSpec.ofChange wideSumsSpec)) wideSumsCard

/-- THE TIED CARD OF 'affidavitlaw01.WideShifts'. -/
def wideShiftsCard : Claim7 := { stood := { row := wideShiftsRow, standIns := [], harness := (true, "7eb84c4cb1a71b91f92e852b078851fecc026c1992fa4f275a0e168516807edf"), looks := true }, kinds := [], alts := [], laidByText := true, laidKinds := [.data, .pinned], laidTests := true, laidLooks := .later }
def WideShiftsCardSaid : Prop := Claim7.holds Tryd.pinned (.plain (OpenSpec.ofChange wideShiftsSpec)) wideShiftsCard

/-- THE TIED CARD OF 'affidavitlaw01.WideDivides'. -/
def wideDividesCard : Claim7 := { stood := { row := wideDividesRow, standIns := [], harness := (true, "7eb84c4cb1a71b91f92e852b078851fecc026c1992fa4f275a0e168516807edf"), looks := true }, kinds := [], alts := [], laidByText := true, laidKinds := [.data, .pinned], laidTests := true, laidLooks := .later }
def WideDividesCardSaid : Prop := Claim7.holds Tryd.pinned (.plain (OpenSpec.ofChange wideDividesSpec)) wideDividesCard

/-- THE TIED CARD OF 'affidavitlaw01.WideAlike'. -/
def wideAlikeCard : Claim7 := { stood := { row := wideAlikeRow, standIns := [], harness := (true, "7eb84c4cb1a71b91f92e852b078851fecc026c1992fa4f275a0e168516807edf"), looks := true }, kinds := [], alts := [], laidByText := true, laidKinds := [.data, .pinned], laidTests := true, laidLooks := .later }
def WideAlikeCardSaid : Prop := Claim7.holds Tryd.pinned (.plain (OpenSpec.ofChange wideAlikeSpec)) wideAlikeCard

/-- THE TIED CARD OF 'affidavitlaw01.WideNats'. -/
def wideNatsCard : Claim7 := { stood := { row := wideNatsRow, standIns := [], harness := (true, "7eb84c4cb1a71b91f92e852b078851fecc026c1992fa4f275a0e168516807edf"), looks := true }, kinds := [], alts := [], laidByText := true, laidKinds := [.data, .pinned], laidTests := true, laidLooks := .later }
def WideNatsCardSaid : Prop := Claim7.holds Tryd.pinned (.plain (OpenSpec.ofChange wideNatsSpec)) wideNatsCard

/-- THE SECOND FORM's CARD OF 'affidavitlaw01.WideDivs'. -/
def wideDivsUptoCard : Claim7 := { stood := { row := wideDivsUptoRow, standIns := [], harness := (true, "7eb84c4cb1a71b91f92e852b078851fecc026c1992fa4f275a0e168516807edf"), looks := true }, kinds := [], alts := [], laidByText := true, laidKinds := [.data, .pinned], laidTests := true, laidLooks := .later }
def WideDivsUptoCardSaid : Prop := Claim7.holds Tryd.pinned (.plain (OpenSpec.upto wideDivsSpec)) wideDivsUptoCard

/-- THE SECOND FORM's CARD OF 'affidavitlaw01.WideBack'. -/
def wideBackUptoCard : Claim7 := { stood := { row := wideBackUptoRow, standIns := [], harness := (true, "7eb84c4cb1a71b91f92e852b078851fecc026c1992fa4f275a0e168516807edf"), looks := true }, kinds := [], alts := [], laidByText := true, laidKinds := [.data, .pinned], laidTests := true, laidLooks := .later }
def WideBackUptoCardSaid : Prop := Claim7.holds Tryd.pinned (.plain (OpenSpec.upto wideBackSpec)) wideBackUptoCard

/-- THE SECOND FORM's CARD OF 'affidavitlaw01.WideRing'. -/
def wideRingUptoCard : Claim7 := { stood := { row := wideRingUptoRow, standIns := [], harness := (true, "7eb84c4cb1a71b91f92e852b078851fecc026c1992fa4f275a0e168516807edf"), looks := true }, kinds := [], alts := [], laidByText := true, laidKinds := [.data, .pinned], laidTests := true, laidLooks := .later }
def WideRingUptoCardSaid : Prop := Claim7.holds Tryd.pinned (.plain (OpenSpec.upto wideRingSpec)) wideRingUptoCard

/-- THE SECOND FORM's CARD OF 'affidavitlaw01.WidePairs'. -/
def widePairsUptoCard : Claim7 := { stood := { row := widePairsUptoRow, standIns := [], harness := (true, "7eb84c4cb1a71b91f92e852b078851fecc026c1992fa4f275a0e168516807edf"), looks := true }, kinds := [], alts := [], laidByText := true, laidKinds := [.data, .pinned], laidTests := true, laidLooks := .later }
def WidePairsUptoCardSaid : Prop := Claim7.holds Tryd.pinned (.plain (OpenSpec.upto widePairsSpec)) widePairsUptoCard

/-- THE SECOND FORM's CARD OF 'affidavitlaw01.WideSums'. -/
def wideSumsUptoCard : Claim7 := { stood := { row := wideSumsUptoRow, standIns := [], harness := (true, "7eb84c4cb1a71b91f92e852b078851fecc026c1992fa4f275a0e168516807edf"), looks := true }, kinds := [], alts := [], laidByText := true, laidKinds := [.data, .pinned], laidTests := true, laidLooks := .later }
def WideSumsUptoCardSaid : Prop := Claim7.holds Tryd.pinned (.plain (OpenSpec.upto wideSumsSpec)) wideSumsUptoCard

/-- THE SECOND FORM's CARD OF 'affidavitlaw01.WideShifts'. -/
def wideShiftsUptoCard : Claim7 := { stood := { row := wideShiftsUptoRow, standIns := [], harness := (true, "7eb84c4cb1a71b91f92e852b078851fecc026c1992fa4f275a0e168516807edf"), looks := true }, kinds := [], alts := [], laidByText := true, laidKinds := [.data, .pinned], laidTests := true, laidLooks := .later }
def WideShiftsUptoCardSaid : Prop := Claim7.holds Tryd.pinned (.plain (OpenSpec.upto wideShiftsSpec)) wideShiftsUptoCard

/-- THE SECOND FORM's CARD OF 'affidavitlaw01.WideDivides'. -/
def wideDividesUptoCard : Claim7 := { stood := { row := wideDividesUptoRow, standIns := [], harness := (true, "7eb84c4cb1a71b91f92e852b078851fecc026c1992fa4f275a0e168516807edf"), looks := true }, kinds := [], alts := [], laidByText := true, laidKinds := [.data, .pinned], laidTests := true, laidLooks := .later }
def WideDividesUptoCardSaid : Prop := Claim7.holds Tryd.pinned (.plain (OpenSpec.upto wideDividesSpec)) wideDividesUptoCard

/-- THE SECOND FORM's CARD OF 'affidavitlaw01.WideAlike'. -/
def wideAlikeUptoCard : Claim7 := { stood := { row := wideAlikeUptoRow, standIns := [], harness := (true, "7eb84c4cb1a71b91f92e852b078851fecc026c1992fa4f275a0e168516807edf"), looks := true }, kinds := [], alts := [], laidByText := true, laidKinds := [.data, .pinned], laidTests := true, laidLooks := .later }
def WideAlikeUptoCardSaid : Prop := Claim7.holds Tryd.pinned (.plain (OpenSpec.upto wideAlikeSpec)) wideAlikeUptoCard

/-- THE SECOND FORM's CARD OF 'affidavitlaw01.WideNats'. -/
def wideNatsUptoCard : Claim7 := { stood := { row := wideNatsUptoRow, standIns := [], harness := (true, "7eb84c4cb1a71b91f92e852b078851fecc026c1992fa4f275a0e168516807edf"), looks := true }, kinds := [], alts := [], laidByText := true, laidKinds := [.data, .pinned], laidTests := true, laidLooks := .later }
def WideNatsUptoCardSaid : Prop := Claim7.holds Tryd.pinned (.plain (OpenSpec.upto wideNatsSpec)) wideNatsUptoCard
end Rows
end Go.Proofs.YtnghcpgdfkchdaaDoor
