/-
  DERIVED. GIVEN WITH THE SEED: THE CARDS: each row of YtjggmdlecdbeeaaDoorRows.lean that lists a variable, with what it lists TIED to the program's text (the seventh form; the later family's looks); each row that meets fmt, with fmt's text TOLD by the authors' own Lean function (tested against real Go, not proved from fmt's source: count such statements apart). THE CARD IS WHAT COUNTS. Prove the row's statement (the work); the ties are given (YtjggmdlecdbeeaaDoorTie.lean); close each card by the builder's one call (the guide's Derived/Test/ToyasCard.lean, 'card_holds'). Laid BY PROGRAM, IN A SANDBOX (cutbox-door.mjs). By AI agents, Wed Nov 11 2026. No macro, syntax, notation, axiom, sorry.
-/
import Derived.Test.YtjggmdlecdbeeaaDoorRows
import GoSem.ClaimSeven
namespace Go.Proofs.YtjggmdlecdbeeaaDoor
namespace Rows

/-- THE TIED CARD OF 'affidavitlaw04.DecRounds'. -/
def decRoundsCard : Claim7 := { stood := { row := decRoundsRow, standIns := [], harness := (true, "f06c1bc10ff6384294c5fb9bb14bc9f7dc91877ea9b3b1a7a3799b310e7df0a3"), looks := true }, kinds := [], alts := [], laidByText := true, laidKinds := [.data, .pinned], laidTests := true, laidLooks := .later }
def DecRoundsCardSaid : Prop := Claim7.holds Tryd.pinned (.plain (OpenSpec.ofChange decRoundsSpec)) decRoundsCard

/-- THE TIED CARD OF 'affidavitlaw04.DecCompares'. -/
def decComparesCard : Claim7 := { stood := { row := decComparesRow, standIns := [], harness := (true, "f06c1bc10ff6384294c5fb9bb14bc9f7dc91877ea9b3b1a7a3799b310e7df0a3"), looks := true }, kinds := [], alts := [], laidByText := true, laidKinds := [.data, .pinned], laidTests := true, laidLooks := .later }
def DecComparesCardSaid : Prop := Claim7.holds Tryd.pinned (.plain (OpenSpec.ofChange decComparesSpec)) decComparesCard

/-- THE TIED CARD OF 'affidavitlaw04.DecOrders'. -/
def decOrdersCard : Claim7 := { stood := { row := decOrdersRow, standIns := [], harness := (true, "f06c1bc10ff6384294c5fb9bb14bc9f7dc91877ea9b3b1a7a3799b310e7df0a3"), looks := true }, kinds := [], alts := [], laidByText := true, laidKinds := [.data, .pinned], laidTests := true, laidLooks := .later }
def DecOrdersCardSaid : Prop := Claim7.holds Tryd.pinned (.plain (OpenSpec.ofChange decOrdersSpec)) decOrdersCard

/-- THE TIED CARD OF 'affidavitlaw04.DecRises'. -/
def decRisesCard : Claim7 := { stood := { row := decRisesRow, standIns := [], harness := (true, "f06c1bc10ff6384294c5fb9bb14bc9f7dc91877ea9b3b1a7a3799b310e7df0a3"), looks := true }, kinds := [], alts := [], laidByText := true, laidKinds := [.data, .pinned], laidTests := true, laidLooks := .later }
def DecRisesCardSaid : Prop := Claim7.holds Tryd.pinned (.plain (OpenSpec.ofChange decRisesSpec)) decRisesCard

/-- THE TIED CARD OF 'affidavitlaw04.DecTurns'. -/
def decTurnsCard : Claim7 := { stood := { row := decTurnsRow, standIns := [], harness := (true, "f06c1bc10ff6384294c5fb9bb14bc9f7dc91877ea9b3b1a7a3799b310e7df0a3"), looks := true }, kinds := [], alts := [], laidByText := true, laidKinds := [.data, .pinned], laidTests := true, laidLooks := .later }
def DecTurnsCardSaid : Prop := Claim7.holds Tryd.pinned (.plain (OpenSpec.ofChange decTurnsSpec)) decTurnsCard

/-- THE TIED CARD OF 'affidavitlaw04.DecChecks'. -/
def decChecksCard : Claim7 := { stood := { row := decChecksRow, standIns := [], harness := (true, "f06c1bc10ff6384294c5fb9bb14bc9f7dc91877ea9b3b1a7a3799b310e7df0a3"), looks := true }, kinds := [], alts := [], laidByText := true, laidKinds := [.data, .pinned], laidTests := true, laidLooks := .later }
def DecChecksCardSaid : Prop := Claim7.holds Tryd.pinned (.plain (OpenSpec.ofChange decChecksSpec)) decChecksCard

/-- THE TIED CARD OF 'affidavitlaw04.DecHolds'. -/
def decHoldsCard : Claim7 := { stood := { row := decHoldsRow, standIns := [], harness := (true, "f06c1bc10ff6384294c5fb9bb14bc9f7dc91877ea9b3b1a7a3799b310e7df0a3"), looks := true }, kinds := [], alts := [], laidByText := true, laidKinds := [.data, .pinned], laidTests := true, laidLooks := .later }
def DecHoldsCardSaid : Prop := Claim7.holds Tryd.pinned (.plain (OpenSpec.ofChange decHoldsSpec)) decHoldsCard

/-- THE TIED CARD OF 'affidavitlaw04.DecBetween'. -/
def decBetweenCard : Claim7 := { stood := { row := decBetweenRow, standIns := [], harness := (true, "f06c1bc10ff6384294c5fb9bb14bc9f7dc91877ea9b3b1a7a3799b310e7df0a3"), looks := true }, kinds := [], alts := [], laidByText := true, laidKinds := [.data, .pinned], laidTests := true, laidLooks := .later }
def DecBetweenCardSaid : Prop := Claim7.holds Tryd.pinned (.plain (OpenSpec.ofChange decBetweenSpec)) decBetweenCard

/-- THE SECOND FORM's CARD OF 'affidavitlaw04.DecRounds'. -/
def decRoundsUptoCard : Claim7 := { stood := { row := decRoundsUptoRow, standIns := [], harness := (true, "f06c1bc10ff6384294c5fb9bb14bc9f7dc91877ea9b3b1a7a3799b310e7df0a3"), looks := true }, kinds := [], alts := [], laidByText := true, laidKinds := [.data, .pinned], laidTests := true, laidLooks := .later }
def DecRoundsUptoCardSaid : Prop := Claim7.holds Tryd.pinned (.plain (OpenSpec.upto decRoundsSpec)) decRoundsUptoCard

/-- THE SECOND FORM's CARD OF 'affidavitlaw04.DecCompares'. -/
def decComparesUptoCard : Claim7 := { stood := { row := decComparesUptoRow, standIns := [], harness := (true, "f06c1bc10ff6384294c5fb9bb14bc9f7dc91877ea9b3b1a7a3799b310e7df0a3"), looks := true }, kinds := [], alts := [], laidByText := true, laidKinds := [.data, .pinned], laidTests := true, laidLooks := .later }
def DecComparesUptoCardSaid : Prop := Claim7.holds Tryd.pinned (.plain (OpenSpec.upto decComparesSpec)) decComparesUptoCard

/-- THE SECOND FORM's CARD OF 'affidavitlaw04.DecOrders'. -/
def decOrdersUptoCard : Claim7 := { stood := { row := decOrdersUptoRow, standIns := [], harness := (true, "f06c1bc10ff6384294c5fb9bb14bc9f7dc91877ea9b3b1a7a3799b310e7df0a3"), looks := true }, kinds := [], alts := [], laidByText := true, laidKinds := [.data, .pinned], laidTests := true, laidLooks := .later }
def DecOrdersUptoCardSaid : Prop := Claim7.holds Tryd.pinned (.plain (OpenSpec.upto decOrdersSpec)) decOrdersUptoCard

/-- THE SECOND FORM's CARD OF 'affidavitlaw04.DecRises'. -/
def decRisesUptoCard : Claim7 := { stood := { row := decRisesUptoRow, standIns := [], harness := (true, "f06c1bc10ff6384294c5fb9bb14bc9f7dc91877ea9b3b1a7a3799b310e7df0a3"), looks := true }, kinds := [], alts := [], laidByText := true, laidKinds := [.data, .pinned], laidTests := true, laidLooks := .later }
def DecRisesUptoCardSaid : Prop := Claim7.holds Tryd.pinned (.plain (OpenSpec.upto decRisesSpec)) decRisesUptoCard

/-- THE SECOND FORM's CARD OF 'affidavitlaw04.DecTurns'. -/
def decTurnsUptoCard : Claim7 := { stood := { row := decTurnsUptoRow, standIns := [], harness := (true, "f06c1bc10ff6384294c5fb9bb14bc9f7dc91877ea9b3b1a7a3799b310e7df0a3"), looks := true }, kinds := [], alts := [], laidByText := true, laidKinds := [.data, .pinned], laidTests := true, laidLooks := .later }
def DecTurnsUptoCardSaid : Prop := Claim7.holds Tryd.pinned (.plain (OpenSpec.upto decTurnsSpec)) decTurnsUptoCard

/-- THE SECOND FORM's CARD OF 'affidavitlaw04.DecChecks'. -/
def decChecksUptoCard : Claim7 := { stood := { row := decChecksUptoRow, standIns := [], harness := (true, "f06c1bc10ff6384294c5fb9bb14bc9f7dc91877ea9b3b1a7a3799b310e7df0a3"), looks := true }, kinds := [], alts := [], laidByText := true, laidKinds := [.data, .pinned], laidTests := true, laidLooks := .later }
def DecChecksUptoCardSaid : Prop := Claim7.holds Tryd.pinned (.plain (OpenSpec.upto decChecksSpec)) decChecksUptoCard

/-- THE SECOND FORM's CARD OF 'affidavitlaw04.DecHolds'. -/
def decHoldsUptoCard : Claim7 := { stood := { row := decHoldsUptoRow, standIns := [], harness := (true, "f06c1bc10ff6384294c5fb9bb14bc9f7dc91877ea9b3b1a7a3799b310e7df0a3"), looks := true }, kinds := [], alts := [], laidByText := true, laidKinds := [.data, .pinned], laidTests := true, laidLooks := .later }
def DecHoldsUptoCardSaid : Prop := Claim7.holds Tryd.pinned (.plain (OpenSpec.upto decHoldsSpec)) decHoldsUptoCard

/-- THE SECOND FORM's CARD OF 'affidavitlaw04.DecBetween'. -/
def decBetweenUptoCard : Claim7 := { stood := { row := decBetweenUptoRow, standIns := [], harness := (true, "f06c1bc10ff6384294c5fb9bb14bc9f7dc91877ea9b3b1a7a3799b310e7df0a3"), looks := true }, kinds := [], alts := [], laidByText := true, laidKinds := [.data, .pinned], laidTests := true, laidLooks := .later }
def DecBetweenUptoCardSaid : Prop := Claim7.holds Tryd.pinned (.plain (OpenSpec.upto decBetweenSpec)) decBetweenUptoCard
end Rows
end Go.Proofs.YtjggmdlecdbeeaaDoor
