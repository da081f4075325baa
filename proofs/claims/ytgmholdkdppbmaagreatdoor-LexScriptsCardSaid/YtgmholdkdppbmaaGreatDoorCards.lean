/-
  DERIVED. GIVEN WITH THE SEED: THE CARDS: each row of YtgmholdkdppbmaaGreatDoorRows.lean that lists a variable, with what it lists TIED to the program's text (the seventh form; the later family's looks); each row that meets fmt, with fmt's text TOLD by the authors' own Lean function (tested against real Go, not proved from fmt's source: count such statements apart). THE CARD IS WHAT COUNTS. Prove the row's statement (the work); the ties are given (YtgmholdkdppbmaaGreatDoorTie.lean); close each card by the builder's one call (the guide's Derived/Test/ToyasCard.lean, 'card_holds'). Laid BY PROGRAM, IN A SANDBOX (cutbox-door.mjs). By AI agents, Wed Nov 11 2026. No macro, syntax, notation, axiom, sorry.
-/
import Derived.Test.YtgmholdkdppbmaaGreatDoorRows
import GoSem.ClaimSeven
namespace Go.Proofs.YtgmholdkdppbmaaGreatDoor
namespace Rows

/-- THE TIED CARD OF 'affidavitlaw09.LexAlone'. -/
def lexAloneCard : Claim7 := { stood := { row := lexAloneRow, standIns := [], harness := (true, "73085e85d4c25a272a84d80e6f7eb59eada901101d75b9976c8354b7ce9214fa"), looks := true }, kinds := [], alts := [], laidByText := true, laidKinds := [.data, .pinned], laidTests := true, laidLooks := .later }
def LexAloneCardSaid : Prop := Claim7.holds Tryz.pinned (.plain (OpenSpec.ofChange lexAloneSpec)) lexAloneCard

/-- THE TIED CARD OF 'affidavitlaw09.LexEquals'. -/
def lexEqualsCard : Claim7 := { stood := { row := lexEqualsRow, standIns := [], harness := (true, "73085e85d4c25a272a84d80e6f7eb59eada901101d75b9976c8354b7ce9214fa"), looks := true }, kinds := [], alts := [], laidByText := true, laidKinds := [.data, .pinned], laidTests := true, laidLooks := .later }
def LexEqualsCardSaid : Prop := Claim7.holds Tryz.pinned (.plain (OpenSpec.ofChange lexEqualsSpec)) lexEqualsCard

/-- THE TIED CARD OF 'affidavitlaw09.LexNames'. -/
def lexNamesCard : Claim7 := { stood := { row := lexNamesRow, standIns := [], harness := (true, "73085e85d4c25a272a84d80e6f7eb59eada901101d75b9976c8354b7ce9214fa"), looks := true }, kinds := [], alts := [], laidByText := true, laidKinds := [.data, .pinned], laidTests := true, laidLooks := .later }
def LexNamesCardSaid : Prop := Claim7.holds Tryz.pinned (.plain (OpenSpec.ofChange lexNamesSpec)) lexNamesCard

/-- THE TIED CARD OF 'affidavitlaw09.LexPieces'. -/
def lexPiecesCard : Claim7 := { stood := { row := lexPiecesRow, standIns := [], harness := (true, "73085e85d4c25a272a84d80e6f7eb59eada901101d75b9976c8354b7ce9214fa"), looks := true }, kinds := [], alts := [], laidByText := true, laidKinds := [.data, .pinned], laidTests := true, laidLooks := .later }
def LexPiecesCardSaid : Prop := Claim7.holds Tryz.pinned (.plain (OpenSpec.ofChange lexPiecesSpec)) lexPiecesCard

/-- THE TIED CARD OF 'affidavitlaw09.LexRows'. -/
def lexRowsCard : Claim7 := { stood := { row := lexRowsRow, standIns := [], harness := (true, "73085e85d4c25a272a84d80e6f7eb59eada901101d75b9976c8354b7ce9214fa"), looks := true }, kinds := [], alts := [], laidByText := true, laidKinds := [.data, .pinned], laidTests := true, laidLooks := .later }
def LexRowsCardSaid : Prop := Claim7.holds Tryz.pinned (.plain (OpenSpec.ofChange lexRowsSpec)) lexRowsCard

/-- THE TIED CARD OF 'affidavitlaw09.LexScripts'. -/
def lexScriptsCard : Claim7 := { stood := { row := lexScriptsRow, standIns := [], harness := (true, "73085e85d4c25a272a84d80e6f7eb59eada901101d75b9976c8354b7ce9214fa"), looks := true }, kinds := [], alts := [], laidByText := true, laidKinds := [.data, .pinned], laidTests := true, laidLooks := .later }
def LexScriptsCardSaid : Prop := Claim7.holds Tryz.pinned (.plain (OpenSpec.ofChange lexScriptsSpec)) lexScriptsCard

/-- THE TIED CARD OF 'affidavitlaw09.LexLeaves'. -/
def lexLeavesCard : Claim7 := { stood := { row := lexLeavesRow, standIns := [], harness := (true, "73085e85d4c25a272a84d80e6f7eb59eada901101d75b9976c8354b7ce9214fa"), looks := true }, kinds := [], alts := [], laidByText := true, laidKinds := [.data, .pinned], laidTests := true, laidLooks := .later }
def LexLeavesCardSaid : Prop := Claim7.holds Tryz.pinned (.plain (OpenSpec.ofChange lexLeavesSpec)) lexLeavesCard

/-- THE SECOND FORM's CARD OF 'affidavitlaw09.LexAlone'. -/
def lexAloneUptoCard : Claim7 := { stood := { row := lexAloneUptoRow, standIns := [], harness := (true, "73085e85d4c25a272a84d80e6f7eb59eada901101d75b9976c8354b7ce9214fa"), looks := true }, kinds := [], alts := [], laidByText := true, laidKinds := [.data, .pinned], laidTests := true, laidLooks := .later }
def LexAloneUptoCardSaid : Prop := Claim7.holds Tryz.pinned (.plain (OpenSpec.upto lexAloneSpec)) lexAloneUptoCard

/-- THE SECOND FORM's CARD OF 'affidavitlaw09.LexEquals'. -/
def lexEqualsUptoCard : Claim7 := { stood := { row := lexEqualsUptoRow, standIns := [], harness := (true, "73085e85d4c25a272a84d80e6f7eb59eada901101d75b9976c8354b7ce9214fa"), looks := true }, kinds := [], alts := [], laidByText := true, laidKinds := [.data, .pinned], laidTests := true, laidLooks := .later }
def LexEqualsUptoCardSaid : Prop := Claim7.holds Tryz.pinned (.plain (OpenSpec.upto lexEqualsSpec)) lexEqualsUptoCard

/-- THE SECOND FORM's CARD OF 'affidavitlaw09.LexNames'. -/
def lexNamesUptoCard : Claim7 := { stood := { row := lexNamesUptoRow, standIns := [], harness := (true, "73085e85d4c25a272a84d80e6f7eb59eada901101d75b9976c8354b7ce9214fa"), looks := true }, kinds := [], alts := [], laidByText := true, laidKinds := [.data, .pinned], laidTests := true, laidLooks := .later }
def LexNamesUptoCardSaid : Prop := Claim7.holds Tryz.pinned (.plain (OpenSpec.upto lexNamesSpec)) lexNamesUptoCard

/-- THE SECOND FORM's CARD OF 'affidavitlaw09.LexPieces'. -/
def lexPiecesUptoCard : Claim7 := { stood := { row := lexPiecesUptoRow, standIns := [], harness := (true, "73085e85d4c25a272a84d80e6f7eb59eada901101d75b9976c8354b7ce9214fa"), looks := true }, kinds := [], alts := [], laidByText := true, laidKinds := [.data, .pinned], laidTests := true, laidLooks := .later }
def LexPiecesUptoCardSaid : Prop := Claim7.holds Tryz.pinned (.plain (OpenSpec.upto lexPiecesSpec)) lexPiecesUptoCard

/-- THE SECOND FORM's CARD OF 'affidavitlaw09.LexRows'. -/
def lexRowsUptoCard : Claim7 := { stood := { row := lexRowsUptoRow, standIns := [], harness := (true, "73085e85d4c25a272a84d80e6f7eb59eada901101d75b9976c8354b7ce9214fa"), looks := true }, kinds := [], alts := [], laidByText := true, laidKinds := [.data, .pinned], laidTests := true, laidLooks := .later }
def LexRowsUptoCardSaid : Prop := Claim7.holds Tryz.pinned (.plain (OpenSpec.upto lexRowsSpec)) lexRowsUptoCard

/-- THE SECOND FORM's CARD OF 'affidavitlaw09.LexScripts'. -/
def lexScriptsUptoCard : Claim7 := { stood := { row := lexScriptsUptoRow, standIns := [], harness := (true, "73085e85d4c25a272a84d80e6f7eb59eada901101d75b9976c8354b7ce9214fa"), looks := true }, kinds := [], alts := [], laidByText := true, laidKinds := [.data, .pinned], laidTests := true, laidLooks := .later }
def LexScriptsUptoCardSaid : Prop := Claim7.holds Tryz.pinned (.plain (OpenSpec.upto lexScriptsSpec)) lexScriptsUptoCard

/-- THE SECOND FORM's CARD OF 'affidavitlaw09.LexLeaves'. -/
def lexLeavesUptoCard : Claim7 := { stood := { row := lexLeavesUptoRow, standIns := [], harness := (true, "73085e85d4c25a272a84d80e6f7eb59eada901101d75b9976c8354b7ce9214fa"), looks := true }, kinds := [], alts := [], laidByText := true, laidKinds := [.data, .pinned], laidTests := true, laidLooks := .later }
def LexLeavesUptoCardSaid : Prop := Claim7.holds Tryz.pinned (.plain (OpenSpec.upto lexLeavesSpec)) lexLeavesUptoCard
end Rows
end Go.Proofs.YtgmholdkdppbmaaGreatDoor
