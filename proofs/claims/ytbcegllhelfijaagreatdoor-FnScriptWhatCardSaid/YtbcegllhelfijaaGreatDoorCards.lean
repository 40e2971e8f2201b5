/-
  DERIVED. GIVEN WITH THE SEED: THE CARDS: each row of YtbcegllhelfijaaGreatDoorRows.lean that lists a variable, with what it lists TIED to the program's text (the seventh form; the later family's looks); each row that meets fmt, with fmt's text TOLD by the authors' own Lean function (tested against real Go, not proved from fmt's source: count such statements apart). THE CARD IS WHAT COUNTS. Prove the row's statement (the work); the ties are given (YtbcegllhelfijaaGreatDoorTie.lean); close each card by the builder's one call (the guide's Derived/Test/ToyasCard.lean, 'card_holds'). Laid BY PROGRAM, IN A SANDBOX (cutbox-door.mjs). By AI agents, Wed Nov 11 2026. No macro, syntax, notation, axiom, sorry.
-/
import Derived.Test.YtbcegllhelfijaaGreatDoorRows
import GoSem.ClaimSeven
namespace Go.Proofs.YtbcegllhelfijaaGreatDoor
namespace Rows

/-- THE TIED CARD OF 'laws.FnScriptCut'. -/
def fnScriptCutCard : Claim7 := { stood := { row := fnScriptCutRow, standIns := [], harness := (true, "c179470f3cb9a24b0b63c17af89fb1aafcbbf3bddfe2cdda2f3dae238af161a7"), looks := true }, kinds := [], alts := [], goes := true, laidByText := true, laidKinds := [.data, .data, .data, .data, .sentinel, .pinned], laidTests := true, laidLooks := .later }
def FnScriptCutCardSaid : Prop := Claim7.holds Tryz.pinned (.plain (OpenSpec.ofChange fnScriptCutSpec)) fnScriptCutCard

/-- THE TIED CARD OF 'laws.FnScriptSettle'. -/
def fnScriptSettleCard : Claim7 := { stood := { row := fnScriptSettleRow, standIns := [], harness := (true, "c179470f3cb9a24b0b63c17af89fb1aafcbbf3bddfe2cdda2f3dae238af161a7"), looks := true }, kinds := [], alts := [], goes := true, laidByText := true, laidKinds := [.data, .data, .data, .data, .sentinel, .pinned], laidTests := true, laidLooks := .later }
def FnScriptSettleCardSaid : Prop := Claim7.holds Tryz.pinned (.plain (OpenSpec.ofChange fnScriptSettleSpec)) fnScriptSettleCard

/-- THE TIED CARD OF 'laws.FnScriptWhat'. -/
def fnScriptWhatCard : Claim7 := { stood := { row := fnScriptWhatRow, standIns := [], harness := (true, "c179470f3cb9a24b0b63c17af89fb1aafcbbf3bddfe2cdda2f3dae238af161a7"), looks := true }, kinds := [], alts := [], goes := true, laidByText := true, laidKinds := [.data, .data, .data, .data, .sentinel, .pinned], laidTests := true, laidLooks := .later }
def FnScriptWhatCardSaid : Prop := Claim7.holds Tryz.pinned (.plain (OpenSpec.ofChange fnScriptWhatSpec)) fnScriptWhatCard

/-- THE TIED CARD OF 'laws.FnExactExecute'. -/
def fnExactExecuteCard : Claim7 := { stood := { row := fnExactExecuteRow, standIns := [], harness := (true, "c179470f3cb9a24b0b63c17af89fb1aafcbbf3bddfe2cdda2f3dae238af161a7"), looks := true }, kinds := [], alts := [], goes := true, laidByText := true, laidKinds := [.data, .data, .data, .data, .sentinel, .pinned], laidTests := true, laidLooks := .later }
def FnExactExecuteCardSaid : Prop := Claim7.holds Tryz.pinned (.plain (OpenSpec.ofChange fnExactExecuteSpec)) fnExactExecuteCard

/-- THE TIED CARD OF 'laws.FnScript'. -/
def fnScriptCard : Claim7 := { stood := { row := fnScriptRow, standIns := [], harness := (true, "c179470f3cb9a24b0b63c17af89fb1aafcbbf3bddfe2cdda2f3dae238af161a7"), looks := true }, kinds := [], alts := [], goes := true, laidByText := true, laidKinds := [.data, .data, .data, .data, .sentinel, .pinned], laidTests := true, laidLooks := .later }
def FnScriptCardSaid : Prop := Claim7.holds Tryz.pinned (.plain (OpenSpec.ofChange fnScriptSpec)) fnScriptCard

/-- THE TIED CARD OF 'laws.FnScriptAdd'. -/
def fnScriptAddCard : Claim7 := { stood := { row := fnScriptAddRow, standIns := [], harness := (true, "c179470f3cb9a24b0b63c17af89fb1aafcbbf3bddfe2cdda2f3dae238af161a7"), looks := true }, kinds := [], alts := [], goes := true, laidByText := true, laidKinds := [.data, .data, .data, .data, .sentinel, .pinned], laidTests := true, laidLooks := .later }
def FnScriptAddCardSaid : Prop := Claim7.holds Tryz.pinned (.plain (OpenSpec.ofChange fnScriptAddSpec)) fnScriptAddCard

/-- THE TIED CARD OF 'laws.FnScriptBad'. -/
def fnScriptBadCard : Claim7 := { stood := { row := fnScriptBadRow, standIns := [], harness := (true, "c179470f3cb9a24b0b63c17af89fb1aafcbbf3bddfe2cdda2f3dae238af161a7"), looks := true }, kinds := [], alts := [], goes := true, laidByText := true, laidKinds := [.data, .data, .data, .data, .sentinel, .pinned], laidTests := true, laidLooks := .later }
def FnScriptBadCardSaid : Prop := Claim7.holds Tryz.pinned (.plain (OpenSpec.ofChange fnScriptBadSpec)) fnScriptBadCard

/-- THE TIED CARD OF 'laws.FnScriptDrop'. -/
def fnScriptDropCard : Claim7 := { stood := { row := fnScriptDropRow, standIns := [], harness := (true, "c179470f3cb9a24b0b63c17af89fb1aafcbbf3bddfe2cdda2f3dae238af161a7"), looks := true }, kinds := [], alts := [], goes := true, laidByText := true, laidKinds := [.data, .data, .data, .data, .sentinel, .pinned], laidTests := true, laidLooks := .later }
def FnScriptDropCardSaid : Prop := Claim7.holds Tryz.pinned (.plain (OpenSpec.ofChange fnScriptDropSpec)) fnScriptDropCard

/-- THE TIED CARD OF 'laws.FnScriptWrite'. -/
def fnScriptWriteCard : Claim7 := { stood := { row := fnScriptWriteRow, standIns := [], harness := (true, "c179470f3cb9a24b0b63c17af89fb1aafcbbf3bddfe2cdda2f3dae238af161a7"), looks := true }, kinds := [], alts := [], goes := true, laidByText := true, laidKinds := [.data, .data, .data, .data, .sentinel, .pinned], laidTests := true, laidLooks := .later }
def FnScriptWriteCardSaid : Prop := Claim7.holds Tryz.pinned (.plain (OpenSpec.ofChange fnScriptWriteSpec)) fnScriptWriteCard

/-- THE SECOND FORM's CARD OF 'laws.FnScriptCut'. -/
def fnScriptCutUptoCard : Claim7 := { stood := { row := fnScriptCutUptoRow, standIns := [], harness := (true, "c179470f3cb9a24b0b63c17af89fb1aafcbbf3bddfe2cdda2f3dae238af161a7"), looks := true }, kinds := [], alts := [], goes := true, laidByText := true, laidKinds := [.data, .data, .data, .data, .sentinel, .pinned], laidTests := true, laidLooks := .later }
def FnScriptCutUptoCardSaid : Prop := Claim7.holds Tryz.pinned (.plain (OpenSpec.upto fnScriptCutSpec)) fnScriptCutUptoCard

/-- THE SECOND FORM's CARD OF 'laws.FnScriptSettle'. -/
def fnScriptSettleUptoCard : Claim7 := { stood := { row := fnScriptSettleUptoRow, standIns := [], harness := (true, "c179470f3cb9a24b0b63c17af89fb1aafcbbf3bddfe2cdda2f3dae238af161a7"), looks := true }, kinds := [], alts := [], goes := true, laidByText := true, laidKinds := [.data, .data, .data, .data, .sentinel, .pinned], laidTests := true, laidLooks := .later }
def FnScriptSettleUptoCardSaid : Prop := Claim7.holds Tryz.pinned (.plain (OpenSpec.upto fnScriptSettleSpec)) fnScriptSettleUptoCard

/-- THE SECOND FORM's CARD OF 'laws.FnScriptWhat'. -/
def fnScriptWhatUptoCard : Claim7 := { stood := { row := fnScriptWhatUptoRow, standIns := [], harness := (true, "c179470f3cb9a24b0b63c17af89fb1aafcbbf3bddfe2cdda2f3dae238af161a7"), looks := true }, kinds := [], alts := [], goes := true, laidByText := true, laidKinds := [.data, .data, .data, .data, .sentinel, .pinned], laidTests := true, laidLooks := .later }
def FnScriptWhatUptoCardSaid : Prop := Claim7.holds Tryz.pinned (.plain (OpenSpec.upto fnScriptWhatSpec)) fnScriptWhatUptoCard

/-- THE SECOND FORM's CARD OF 'laws.FnExactExecute'. -/
def fnExactExecuteUptoCard : Claim7 := { stood := { row := fnExactExecuteUptoRow, standIns := [], harness := (true, "c179470f3cb9a24b0b63c17af89fb1aafcbbf3bddfe2cdda2f3dae238af161a7"), looks := true }, kinds := [], alts := [], goes := true, laidByText := true, laidKinds := [.data, .data, .data, .data, .sentinel, .pinned], laidTests := true, laidLooks := .later }
def FnExactExecuteUptoCardSaid : Prop := Claim7.holds Tryz.pinned (.plain (OpenSpec.upto fnExactExecuteSpec)) fnExactExecuteUptoCard

/-- THE SECOND FORM's CARD OF 'laws.FnScript'. -/
def fnScriptUptoCard : Claim7 := { stood := { row := fnScriptUptoRow, standIns := [], harness := (true, "c179470f3cb9a24b0b63c17af89fb1aafcbbf3bddfe2cdda2f3dae238af161a7"), looks := true }, kinds := [], alts := [], goes := true, laidByText := true, laidKinds := [.data, .data, .data, .data, .sentinel, .pinned], laidTests := true, laidLooks := .later }
def FnScriptUptoCardSaid : Prop := Claim7.holds Tryz.pinned (.plain (OpenSpec.upto fnScriptSpec)) fnScriptUptoCard

/-- THE SECOND FORM's CARD OF 'laws.FnScriptAdd'. -/
def fnScriptAddUptoCard : Claim7 := { stood := { row := fnScriptAddUptoRow, standIns := [], harness := (true, "c179470f3cb9a24b0b63c17af89fb1aafcbbf3bddfe2cdda2f3dae238af161a7"), looks := true }, kinds := [], alts := [], goes := true, laidByText := true, laidKinds := [.data, .data, .data, .data, .sentinel, .pinned], laidTests := true, laidLooks := .later }
def FnScriptAddUptoCardSaid : Prop := Claim7.holds Tryz.pinned (.plain (OpenSpec.upto fnScriptAddSpec)) fnScriptAddUptoCard

/-- THE SECOND FORM's CARD OF 'laws.FnScriptBad'. -/
def fnScriptBadUptoCard : Claim7 := { stood := { row := fnScriptBadUptoRow, standIns := [], harness := (true, "c179470f3cb9a24b0b63c17af89fb1aafcbbf3bddfe2cdda2f3dae238af161a7"), looks := true }, kinds := [], alts := [], goes := true, laidByText := true, laidKinds := [.data, .data, .data, .data, .sentinel, .pinned], laidTests := true, laidLooks := .later }
def FnScriptBadUptoCardSaid : Prop := Claim7.holds Tryz.pinned (.plain (OpenSpec.upto fnScriptBadSpec)) fnScriptBadUptoCard

/-- THE SECOND FORM's CARD OF 'laws.FnScriptDrop'. -/
def fnScriptDropUptoCard : Claim7 := { stood := { row := fnScriptDropUptoRow, standIns := [], harness := (true, "c179470f3cb9a24b0b63c17af89fb1aafcbbf3bddfe2cdda2f3dae238af161a7"), looks := true }, kinds := [], alts := [], goes := true, laidByText := true, laidKinds := [.data, .data, .data, .data, .sentinel, .pinned], laidTests := true, laidLooks := .later }
def FnScriptDropUptoCardSaid : Prop := Claim7.holds Tryz.pinned (.plain (OpenSpec.upto fnScriptDropSpec)) fnScriptDropUptoCard

/-- THE SECOND FORM's CARD OF 'laws.FnScriptWrite'. -/
def fnScriptWriteUptoCard : Claim7 := { stood := { row := fnScriptWriteUptoRow, standIns := [], harness := (true, "c179470f3cb9a24b0b63c17af89fb1aafcbbf3bddfe2cdda2f3dae238af161a7"), looks := true }, kinds := [], alts := [], goes := true, laidByText := true, laidKinds := [.data, .data, .data, .data, .sentinel, .pinned], laidTests := true, laidLooks := .later }
def FnScriptWriteUptoCardSaid : Prop := Claim7.holds Tryz.pinned (.plain (OpenSpec.upto fnScriptWriteSpec)) fnScriptWriteUptoCard
end Rows
end Go.Proofs.YtbcegllhelfijaaGreatDoor
