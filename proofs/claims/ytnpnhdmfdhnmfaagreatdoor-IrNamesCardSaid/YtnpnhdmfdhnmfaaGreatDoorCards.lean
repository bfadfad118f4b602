/-
  DERIVED. GIVEN WITH THE SEED: THE CARDS: each row of YtnpnhdmfdhnmfaaGreatDoorRows.lean that lists a variable, with what it lists TIED to the program's text (the seventh form; the later family's looks); each row that meets fmt, with fmt's text TOLD by the authors' own Lean function (tested against real Go, not proved from fmt's source: count such statements apart). THE CARD IS WHAT COUNTS. Prove the row's statement (the work); the ties are given (YtnpnhdmfdhnmfaaGreatDoorTie.lean); close each card by the builder's one call (the guide's Derived/Test/ToyasCard.lean, 'card_holds'). Laid BY PROGRAM, IN A SANDBOX (cutbox-door.mjs). By AI agents, Wed Nov 11 2026. No macro, syntax, notation, axiom, sorry.
-/
import Derived.Test.YtnpnhdmfdhnmfaaGreatDoorRows
import GoSem.ClaimSeven
namespace Go.Proofs.YtnpnhdmfdhnmfaaGreatDoor
namespace Rows

/-- THE TIED CARD OF 'counterprooflaw10.IrUnlike'. -/
def irUnlikeCard : Claim7 := { stood := { row := irUnlikeRow, standIns := [], harness := (true, "a8fab19c52fb40efea4441726b55d6bc93d809761221ebc0031dd8df92e3af94"), looks := true }, kinds := [], alts := [], laidByText := true, laidKinds := [.data, .data, .data], laidTests := true, laidLooks := .later }
def IrUnlikeCardSaid : Prop := Claim7.holds Tryz.pinned (.plain (OpenSpec.ofChange irUnlikeSpec)) irUnlikeCard

/-- THE TIED CARD OF 'counterprooflaw10.IrNames'. -/
def irNamesCard : Claim7 := { stood := { row := irNamesRow, standIns := [], harness := (true, "a8fab19c52fb40efea4441726b55d6bc93d809761221ebc0031dd8df92e3af94"), looks := true }, kinds := [], alts := [], laidByText := true, laidKinds := [.data, .data, .data], laidTests := true, laidLooks := .later }
def IrNamesCardSaid : Prop := Claim7.holds Tryz.pinned (.plain (OpenSpec.ofChange irNamesSpec)) irNamesCard

/-- THE TIED CARD OF 'counterprooflaw10.IrWrong'. -/
def irWrongCard : Claim7 := { stood := { row := irWrongRow, standIns := [], harness := (true, "a8fab19c52fb40efea4441726b55d6bc93d809761221ebc0031dd8df92e3af94"), looks := true }, kinds := [], alts := [], laidByText := true, laidKinds := [.data, .data, .data], laidTests := true, laidLooks := .later }
def IrWrongCardSaid : Prop := Claim7.holds Tryz.pinned (.plain (OpenSpec.ofChange irWrongSpec)) irWrongCard

/-- THE TIED CARD OF 'counterprooflaw10.IrPlaces'. -/
def irPlacesCard : Claim7 := { stood := { row := irPlacesRow, standIns := [], harness := (true, "a8fab19c52fb40efea4441726b55d6bc93d809761221ebc0031dd8df92e3af94"), looks := true }, kinds := [], alts := [], laidByText := true, laidKinds := [.data, .data, .data], laidTests := true, laidLooks := .later }
def IrPlacesCardSaid : Prop := Claim7.holds Tryz.pinned (.plain (OpenSpec.ofChange irPlacesSpec)) irPlacesCard

/-- THE TIED CARD OF 'counterprooflaw10.IrLines'. -/
def irLinesCard : Claim7 := { stood := { row := irLinesRow, standIns := [], harness := (true, "a8fab19c52fb40efea4441726b55d6bc93d809761221ebc0031dd8df92e3af94"), looks := true }, kinds := [], alts := [], laidByText := true, laidKinds := [.data, .data, .data], laidTests := true, laidLooks := .later }
def IrLinesCardSaid : Prop := Claim7.holds Tryz.pinned (.plain (OpenSpec.ofChange irLinesSpec)) irLinesCard

/-- THE TIED CARD OF 'counterprooflaw14.FoldKeeps'. -/
def foldKeepsCard : Claim7 := { stood := { row := foldKeepsRow, standIns := [], harness := (true, "a8fab19c52fb40efea4441726b55d6bc93d809761221ebc0031dd8df92e3af94"), looks := true }, kinds := [], alts := [], laidByText := true, laidKinds := [.data, .data, .data], laidTests := true, laidLooks := .later }
def FoldKeepsCardSaid : Prop := Claim7.holds Tryz.pinned (.plain (OpenSpec.ofChange foldKeepsSpec)) foldKeepsCard

/-- THE TIED CARD OF 'counterprooflaw14.FoldAgain'. -/
def foldAgainCard : Claim7 := { stood := { row := foldAgainRow, standIns := [], harness := (true, "a8fab19c52fb40efea4441726b55d6bc93d809761221ebc0031dd8df92e3af94"), looks := true }, kinds := [], alts := [], laidByText := true, laidKinds := [.data, .data, .data], laidTests := true, laidLooks := .later }
def FoldAgainCardSaid : Prop := Claim7.holds Tryz.pinned (.plain (OpenSpec.ofChange foldAgainSpec)) foldAgainCard

/-- THE TIED CARD OF 'counterprooflaw14.FoldCopies'. -/
def foldCopiesCard : Claim7 := { stood := { row := foldCopiesRow, standIns := [], harness := (true, "a8fab19c52fb40efea4441726b55d6bc93d809761221ebc0031dd8df92e3af94"), looks := true }, kinds := [], alts := [], laidByText := true, laidKinds := [.data, .data, .data], laidTests := true, laidLooks := .later }
def FoldCopiesCardSaid : Prop := Claim7.holds Tryz.pinned (.plain (OpenSpec.ofChange foldCopiesSpec)) foldCopiesCard

/-- THE TIED CARD OF 'counterprooflaw14.FoldRuns'. -/
def foldRunsCard : Claim7 := { stood := { row := foldRunsRow, standIns := [], harness := (true, "a8fab19c52fb40efea4441726b55d6bc93d809761221ebc0031dd8df92e3af94"), looks := true }, kinds := [], alts := [], laidByText := true, laidKinds := [.data, .data, .data], laidTests := true, laidLooks := .later }
def FoldRunsCardSaid : Prop := Claim7.holds Tryz.pinned (.plain (OpenSpec.ofChange foldRunsSpec)) foldRunsCard

/-- THE TIED CARD OF 'counterprooflaw14.FoldNumbers'. -/
def foldNumbersCard : Claim7 := { stood := { row := foldNumbersRow, standIns := [], harness := (true, "a8fab19c52fb40efea4441726b55d6bc93d809761221ebc0031dd8df92e3af94"), looks := true }, kinds := [], alts := [], laidByText := true, laidKinds := [.data, .data, .data], laidTests := true, laidLooks := .later }
def FoldNumbersCardSaid : Prop := Claim7.holds Tryz.pinned (.plain (OpenSpec.ofChange foldNumbersSpec)) foldNumbersCard

/-- THE SECOND FORM's CARD OF 'counterprooflaw10.IrUnlike'. -/
def irUnlikeUptoCard : Claim7 := { stood := { row := irUnlikeUptoRow, standIns := [], harness := (true, "a8fab19c52fb40efea4441726b55d6bc93d809761221ebc0031dd8df92e3af94"), looks := true }, kinds := [], alts := [], laidByText := true, laidKinds := [.data, .data, .data], laidTests := true, laidLooks := .later }
def IrUnlikeUptoCardSaid : Prop := Claim7.holds Tryz.pinned (.plain (OpenSpec.upto irUnlikeSpec)) irUnlikeUptoCard

/-- THE SECOND FORM's CARD OF 'counterprooflaw10.IrNames'. -/
def irNamesUptoCard : Claim7 := { stood := { row := irNamesUptoRow, standIns := [], harness := (true, "a8fab19c52fb40efea4441726b55d6bc93d809761221ebc0031dd8df92e3af94"), looks := true }, kinds := [], alts := [], laidByText := true, laidKinds := [.data, .data, .data], laidTests := true, laidLooks := .later }
def IrNamesUptoCardSaid : Prop := Claim7.holds Tryz.pinned (.plain (OpenSpec.upto irNamesSpec)) irNamesUptoCard

/-- THE SECOND FORM's CARD OF 'counterprooflaw10.IrWrong'. -/
def irWrongUptoCard : Claim7 := { stood := { row := irWrongUptoRow, standIns := [], harness := (true, "a8fab19c52fb40efea4441726b55d6bc93d809761221ebc0031dd8df92e3af94"), looks := true }, kinds := [], alts := [], laidByText := true, laidKinds := [.data, .data, .data], laidTests := true, laidLooks := .later }
def IrWrongUptoCardSaid : Prop := Claim7.holds Tryz.pinned (.plain (OpenSpec.upto irWrongSpec)) irWrongUptoCard

/-- THE SECOND FORM's CARD OF 'counterprooflaw10.IrPlaces'. -/
def irPlacesUptoCard : Claim7 := { stood := { row := irPlacesUptoRow, standIns := [], harness := (true, "a8fab19c52fb40efea4441726b55d6bc93d809761221ebc0031dd8df92e3af94"), looks := true }, kinds := [], alts := [], laidByText := true, laidKinds := [.data, .data, .data], laidTests := true, laidLooks := .later }
def IrPlacesUptoCardSaid : Prop := Claim7.holds Tryz.pinned (.plain (OpenSpec.upto irPlacesSpec)) irPlacesUptoCard

/-- THE SECOND FORM's CARD OF 'counterprooflaw10.IrLines'. -/
def irLinesUptoCard : Claim7 := { stood := { row := irLinesUptoRow, standIns := [], harness := (true, "a8fab19c52fb40efea4441726b55d6bc93d809761221ebc0031dd8df92e3af94"), looks := true }, kinds := [], alts := [], laidByText := true, laidKinds := [.data, .data, .data], laidTests := true, laidLooks := .later }
def IrLinesUptoCardSaid : Prop := Claim7.holds Tryz.pinned (.plain (OpenSpec.upto irLinesSpec)) irLinesUptoCard

/-- THE SECOND FORM's CARD OF 'counterprooflaw14.FoldKeeps'. -/
def foldKeepsUptoCard : Claim7 := { stood := { row := foldKeepsUptoRow, standIns := [], harness := (true, "a8fab19c52fb40efea4441726b55d6bc93d809761221ebc0031dd8df92e3af94"), looks := true }, kinds := [], alts := [], laidByText := true, laidKinds := [.data, .data, .data], laidTests := true, laidLooks := .later }
def FoldKeepsUptoCardSaid : Prop := Claim7.holds Tryz.pinned (.plain (OpenSpec.upto foldKeepsSpec)) foldKeepsUptoCard

/-- THE SECOND FORM's CARD OF 'counterprooflaw14.FoldAgain'. -/
def foldAgainUptoCard : Claim7 := { stood := { row := foldAgainUptoRow, standIns := [], harness := (true, "a8fab19c52fb40efea4441726b55d6bc93d809761221ebc0031dd8df92e3af94"), looks := true }, kinds := [], alts := [], laidByText := true, laidKinds := [.data, .data, .data], laidTests := true, laidLooks := .later }
def FoldAgainUptoCardSaid : Prop := Claim7.holds Tryz.pinned (.plain (OpenSpec.upto foldAgainSpec)) foldAgainUptoCard

/-- THE SECOND FORM's CARD OF 'counterprooflaw14.FoldCopies'. -/
def foldCopiesUptoCard : Claim7 := { stood := { row := foldCopiesUptoRow, standIns := [], harness := (true, "a8fab19c52fb40efea4441726b55d6bc93d809761221ebc0031dd8df92e3af94"), looks := true }, kinds := [], alts := [], laidByText := true, laidKinds := [.data, .data, .data], laidTests := true, laidLooks := .later }
def FoldCopiesUptoCardSaid : Prop := Claim7.holds Tryz.pinned (.plain (OpenSpec.upto foldCopiesSpec)) foldCopiesUptoCard

/-- THE SECOND FORM's CARD OF 'counterprooflaw14.FoldRuns'. -/
def foldRunsUptoCard : Claim7 := { stood := { row := foldRunsUptoRow, standIns := [], harness := (true, "a8fab19c52fb40efea4441726b55d6bc93d809761221ebc0031dd8df92e3af94"), looks := true }, kinds := [], alts := [], laidByText := true, laidKinds := [.data, .data, .data], laidTests := true, laidLooks := .later }
def FoldRunsUptoCardSaid : Prop := Claim7.holds Tryz.pinned (.plain (OpenSpec.upto foldRunsSpec)) foldRunsUptoCard

/-- THE SECOND FORM's CARD OF 'counterprooflaw14.FoldNumbers'. -/
def foldNumbersUptoCard : Claim7 := { stood := { row := foldNumbersUptoRow, standIns := [], harness := (true, "a8fab19c52fb40efea4441726b55d6bc93d809761221ebc0031dd8df92e3af94"), looks := true }, kinds := [], alts := [], laidByText := true, laidKinds := [.data, .data, .data], laidTests := true, laidLooks := .later }
def FoldNumbersUptoCardSaid : Prop := Claim7.holds Tryz.pinned (.plain (OpenSpec.upto foldNumbersSpec)) foldNumbersUptoCard
end Rows
end Go.Proofs.YtnpnhdmfdhnmfaaGreatDoor
