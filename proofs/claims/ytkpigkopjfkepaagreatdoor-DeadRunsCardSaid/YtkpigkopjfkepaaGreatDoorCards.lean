/-
  DERIVED. GIVEN WITH THE SEED: THE CARDS: each row of YtkpigkopjfkepaaGreatDoorRows.lean that lists a variable, with what it lists TIED to the program's text (the seventh form; the later family's looks); each row that meets fmt, with fmt's text TOLD by the authors' own Lean function (tested against real Go, not proved from fmt's source: count such statements apart). THE CARD IS WHAT COUNTS. Prove the row's statement (the work); the ties are given (YtkpigkopjfkepaaGreatDoorTie.lean); close each card by the builder's one call (the guide's Derived/Test/ToyasCard.lean, 'card_holds'). Laid BY PROGRAM, IN A SANDBOX (cutbox-door.mjs). By AI agents, Wed Nov 11 2026. No macro, syntax, notation, axiom, sorry.
-/
import Derived.Test.YtkpigkopjfkepaaGreatDoorRows
import GoSem.ClaimSeven
namespace Go.Proofs.YtkpigkopjfkepaaGreatDoor
namespace Rows

/-- THE TIED CARD OF 'counterprooflaw15.DeadAgain'. -/
def deadAgainCard : Claim7 := { stood := { row := deadAgainRow, standIns := [], harness := (true, "48ba36cc2f9cfc9ea3598ff7f17a4720927997ee7575070e9c84e2539b8f3c88"), looks := false }, kinds := [], alts := [], laidByText := true, laidKinds := [.data, .data, .data], laidTests := true, laidLooks := .later }
def DeadAgainCardSaid : Prop := Claim7.holds Tryz.pinned (.plain (OpenSpec.ofChange deadAgainSpec)) deadAgainCard

/-- THE TIED CARD OF 'counterprooflaw15.DeadIdle'. -/
def deadIdleCard : Claim7 := { stood := { row := deadIdleRow, standIns := [], harness := (true, "48ba36cc2f9cfc9ea3598ff7f17a4720927997ee7575070e9c84e2539b8f3c88"), looks := false }, kinds := [], alts := [], laidByText := true, laidKinds := [.data, .data, .data], laidTests := true, laidLooks := .later }
def DeadIdleCardSaid : Prop := Claim7.holds Tryz.pinned (.plain (OpenSpec.ofChange deadIdleSpec)) deadIdleCard

/-- THE TIED CARD OF 'counterprooflaw15.DeadKeeps'. -/
def deadKeepsCard : Claim7 := { stood := { row := deadKeepsRow, standIns := [], harness := (true, "48ba36cc2f9cfc9ea3598ff7f17a4720927997ee7575070e9c84e2539b8f3c88"), looks := false }, kinds := [], alts := [], laidByText := true, laidKinds := [.data, .data, .data], laidTests := true, laidLooks := .later }
def DeadKeepsCardSaid : Prop := Claim7.holds Tryz.pinned (.plain (OpenSpec.ofChange deadKeepsSpec)) deadKeepsCard

/-- THE TIED CARD OF 'counterprooflaw15.DeadBlocks'. -/
def deadBlocksCard : Claim7 := { stood := { row := deadBlocksRow, standIns := [], harness := (true, "48ba36cc2f9cfc9ea3598ff7f17a4720927997ee7575070e9c84e2539b8f3c88"), looks := false }, kinds := [], alts := [], laidByText := true, laidKinds := [.data, .data, .data], laidTests := true, laidLooks := .later }
def DeadBlocksCardSaid : Prop := Claim7.holds Tryz.pinned (.plain (OpenSpec.ofChange deadBlocksSpec)) deadBlocksCard

/-- THE TIED CARD OF 'counterprooflaw15.DeadRuns'. -/
def deadRunsCard : Claim7 := { stood := { row := deadRunsRow, standIns := [], harness := (true, "48ba36cc2f9cfc9ea3598ff7f17a4720927997ee7575070e9c84e2539b8f3c88"), looks := false }, kinds := [], alts := [], laidByText := true, laidKinds := [.data, .data, .data], laidTests := true, laidLooks := .later }
def DeadRunsCardSaid : Prop := Claim7.holds Tryz.pinned (.plain (OpenSpec.ofChange deadRunsSpec)) deadRunsCard

/-- THE SECOND FORM's CARD OF 'counterprooflaw15.DeadAgain'. -/
def deadAgainUptoCard : Claim7 := { stood := { row := deadAgainUptoRow, standIns := [], harness := (true, "48ba36cc2f9cfc9ea3598ff7f17a4720927997ee7575070e9c84e2539b8f3c88"), looks := false }, kinds := [], alts := [], laidByText := true, laidKinds := [.data, .data, .data], laidTests := true, laidLooks := .later }
def DeadAgainUptoCardSaid : Prop := Claim7.holds Tryz.pinned (.plain (OpenSpec.upto deadAgainSpec)) deadAgainUptoCard

/-- THE SECOND FORM's CARD OF 'counterprooflaw15.DeadIdle'. -/
def deadIdleUptoCard : Claim7 := { stood := { row := deadIdleUptoRow, standIns := [], harness := (true, "48ba36cc2f9cfc9ea3598ff7f17a4720927997ee7575070e9c84e2539b8f3c88"), looks := false }, kinds := [], alts := [], laidByText := true, laidKinds := [.data, .data, .data], laidTests := true, laidLooks := .later }
def DeadIdleUptoCardSaid : Prop := Claim7.holds Tryz.pinned (.plain (OpenSpec.upto deadIdleSpec)) deadIdleUptoCard

/-- THE SECOND FORM's CARD OF 'counterprooflaw15.DeadKeeps'. -/
def deadKeepsUptoCard : Claim7 := { stood := { row := deadKeepsUptoRow, standIns := [], harness := (true, "48ba36cc2f9cfc9ea3598ff7f17a4720927997ee7575070e9c84e2539b8f3c88"), looks := false }, kinds := [], alts := [], laidByText := true, laidKinds := [.data, .data, .data], laidTests := true, laidLooks := .later }
def DeadKeepsUptoCardSaid : Prop := Claim7.holds Tryz.pinned (.plain (OpenSpec.upto deadKeepsSpec)) deadKeepsUptoCard

/-- THE SECOND FORM's CARD OF 'counterprooflaw15.DeadBlocks'. -/
def deadBlocksUptoCard : Claim7 := { stood := { row := deadBlocksUptoRow, standIns := [], harness := (true, "48ba36cc2f9cfc9ea3598ff7f17a4720927997ee7575070e9c84e2539b8f3c88"), looks := false }, kinds := [], alts := [], laidByText := true, laidKinds := [.data, .data, .data], laidTests := true, laidLooks := .later }
def DeadBlocksUptoCardSaid : Prop := Claim7.holds Tryz.pinned (.plain (OpenSpec.upto deadBlocksSpec)) deadBlocksUptoCard

/-- THE SECOND FORM's CARD OF 'counterprooflaw15.DeadRuns'. -/
def deadRunsUptoCard : Claim7 := { stood := { row := deadRunsUptoRow, standIns := [], harness := (true, "48ba36cc2f9cfc9ea3598ff7f17a4720927997ee7575070e9c84e2539b8f3c88"), looks := false }, kinds := [], alts := [], laidByText := true, laidKinds := [.data, .data, .data], laidTests := true, laidLooks := .later }
def DeadRunsUptoCardSaid : Prop := Claim7.holds Tryz.pinned (.plain (OpenSpec.upto deadRunsSpec)) deadRunsUptoCard
end Rows
end Go.Proofs.YtkpigkopjfkepaaGreatDoor
