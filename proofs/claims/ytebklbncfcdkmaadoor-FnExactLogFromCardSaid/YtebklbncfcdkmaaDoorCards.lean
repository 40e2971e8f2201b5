/-
  DERIVED. GIVEN WITH THE SEED: THE CARDS: each row of YtebklbncfcdkmaaDoorRows.lean that lists a variable, with what it lists TIED to the program's text (the seventh form; the later family's looks); each row that meets fmt, with fmt's text TOLD by the authors' own Lean function (tested against real Go, not proved from fmt's source: count such statements apart). THE CARD IS WHAT COUNTS. Prove the row's statement (the work); the ties are given (YtebklbncfcdkmaaDoorTie.lean); close each card by the builder's one call (the guide's Derived/Test/ToyasCard.lean, 'card_holds'). Laid BY PROGRAM, IN A SANDBOX (cutbox-door.mjs). By AI agents, Wed Nov 11 2026. No macro, syntax, notation, axiom, sorry.
-/
import Derived.Test.YtebklbncfcdkmaaDoorRows
import GoSem.ClaimSeven
namespace Go.Proofs.YtebklbncfcdkmaaDoor
namespace Rows

/-- THE TIED CARD OF 'laws.FnExactUpdateText'. -/
def fnExactUpdateTextCard : Claim7 := { stood := { row := fnExactUpdateTextRow, standIns := [], harness := (true, "c0bef4ca36b0d0823c6e9505a759177402e4e3b422af5280f0c0b55cb0628ea7"), looks := true }, kinds := [], alts := [], laidByText := true, laidKinds := [.data, .data, .data], laidTests := true, laidLooks := .later }
def FnExactUpdateTextCardSaid : Prop := Claim7.holds Tryd.pinned (.plain (OpenSpec.ofChange fnExactUpdateTextSpec)) fnExactUpdateTextCard

/-- THE TIED CARD OF 'laws.FnExactLogText'. -/
def fnExactLogTextCard : Claim7 := { stood := { row := fnExactLogTextRow, standIns := [], harness := (true, "c0bef4ca36b0d0823c6e9505a759177402e4e3b422af5280f0c0b55cb0628ea7"), looks := true }, kinds := [], alts := [], laidByText := true, laidKinds := [.data, .data, .data], laidTests := true, laidLooks := .later }
def FnExactLogTextCardSaid : Prop := Claim7.holds Tryd.pinned (.plain (OpenSpec.ofChange fnExactLogTextSpec)) fnExactLogTextCard

/-- THE TIED CARD OF 'laws.FnLogTextJoin'. -/
def fnLogTextJoinCard : Claim7 := { stood := { row := fnLogTextJoinRow, standIns := [], harness := (true, "c0bef4ca36b0d0823c6e9505a759177402e4e3b422af5280f0c0b55cb0628ea7"), looks := true }, kinds := [], alts := [], laidByText := true, laidKinds := [.data, .data, .data], laidTests := true, laidLooks := .later }
def FnLogTextJoinCardSaid : Prop := Claim7.holds Tryd.pinned (.plain (OpenSpec.ofChange fnLogTextJoinSpec)) fnLogTextJoinCard

/-- THE TIED CARD OF 'laws.FnChainText'. -/
def fnChainTextCard : Claim7 := { stood := { row := fnChainTextRow, standIns := [], harness := (true, "c0bef4ca36b0d0823c6e9505a759177402e4e3b422af5280f0c0b55cb0628ea7"), looks := true }, kinds := [], alts := [], laidByText := true, laidKinds := [.data, .data, .data], laidTests := true, laidLooks := .later }
def FnChainTextCardSaid : Prop := Claim7.holds Tryd.pinned (.plain (OpenSpec.ofChange fnChainTextSpec)) fnChainTextCard

/-- THE TIED CARD OF 'laws.FnChainTextNode'. -/
def fnChainTextNodeCard : Claim7 := { stood := { row := fnChainTextNodeRow, standIns := [], harness := (true, "c0bef4ca36b0d0823c6e9505a759177402e4e3b422af5280f0c0b55cb0628ea7"), looks := true }, kinds := [], alts := [], laidByText := true, laidKinds := [.data, .data, .data], laidTests := true, laidLooks := .later }
def FnChainTextNodeCardSaid : Prop := Claim7.holds Tryd.pinned (.plain (OpenSpec.ofChange fnChainTextNodeSpec)) fnChainTextNodeCard

/-- THE TIED CARD OF 'laws.FnExactChainText'. -/
def fnExactChainTextCard : Claim7 := { stood := { row := fnExactChainTextRow, standIns := [], harness := (true, "c0bef4ca36b0d0823c6e9505a759177402e4e3b422af5280f0c0b55cb0628ea7"), looks := true }, kinds := [], alts := [], laidByText := true, laidKinds := [.data, .data, .data], laidTests := true, laidLooks := .later }
def FnExactChainTextCardSaid : Prop := Claim7.holds Tryd.pinned (.plain (OpenSpec.ofChange fnExactChainTextSpec)) fnExactChainTextCard

/-- THE TIED CARD OF 'laws.FnUpdateText'. -/
def fnUpdateTextCard : Claim7 := { stood := { row := fnUpdateTextRow, standIns := [], harness := (true, "c0bef4ca36b0d0823c6e9505a759177402e4e3b422af5280f0c0b55cb0628ea7"), looks := true }, kinds := [], alts := [], laidByText := true, laidKinds := [.data, .data, .data, .data, .handle, .pinned], laidTests := true, laidLooks := .later }
def FnUpdateTextCardSaid : Prop := Claim7.holds Tryd.pinned (.plain (OpenSpec.ofChange fnUpdateTextSpec)) fnUpdateTextCard

/-- THE TIED CARD OF 'laws.FnExactLogFrom'. -/
def fnExactLogFromCard : Claim7 := { stood := { row := fnExactLogFromRow, standIns := [], harness := (true, "c0bef4ca36b0d0823c6e9505a759177402e4e3b422af5280f0c0b55cb0628ea7"), looks := true }, kinds := [], alts := [], laidByText := true, laidKinds := [.data, .data, .data, .data, .handle, .pinned], laidTests := true, laidLooks := .later }
def FnExactLogFromCardSaid : Prop := Claim7.holds Tryd.pinned (.plain (OpenSpec.ofChange fnExactLogFromSpec)) fnExactLogFromCard

/-- THE TIED CARD OF 'laws.FnLogText'. -/
def fnLogTextCard : Claim7 := { stood := { row := fnLogTextRow, standIns := [], harness := (true, "c0bef4ca36b0d0823c6e9505a759177402e4e3b422af5280f0c0b55cb0628ea7"), looks := true }, kinds := [], alts := [], laidByText := true, laidKinds := [.data, .data, .data, .data, .handle, .pinned], laidTests := true, laidLooks := .later }
def FnLogTextCardSaid : Prop := Claim7.holds Tryd.pinned (.plain (OpenSpec.ofChange fnLogTextSpec)) fnLogTextCard

/-- THE TIED CARD OF 'laws.FnLogFromNot'. -/
def fnLogFromNotCard : Claim7 := { stood := { row := fnLogFromNotRow, standIns := [], harness := (true, "c0bef4ca36b0d0823c6e9505a759177402e4e3b422af5280f0c0b55cb0628ea7"), looks := true }, kinds := [], alts := [], laidByText := true, laidKinds := [.data, .data, .data, .data, .handle, .pinned], laidTests := true, laidLooks := .later }
def FnLogFromNotCardSaid : Prop := Claim7.holds Tryd.pinned (.plain (OpenSpec.ofChange fnLogFromNotSpec)) fnLogFromNotCard

/-- THE TIED CARD OF 'laws.FnLogFrom'. -/
def fnLogFromCard : Claim7 := { stood := { row := fnLogFromRow, standIns := [], harness := (true, "c0bef4ca36b0d0823c6e9505a759177402e4e3b422af5280f0c0b55cb0628ea7"), looks := true }, kinds := [], alts := [], laidByText := true, laidKinds := [.data, .data, .data, .data, .handle, .pinned], laidTests := true, laidLooks := .later }
def FnLogFromCardSaid : Prop := Claim7.holds Tryd.pinned (.plain (OpenSpec.ofChange fnLogFromSpec)) fnLogFromCard

/-- THE SECOND FORM's CARD OF 'laws.FnExactUpdateText'. -/
def fnExactUpdateTextUptoCard : Claim7 := { stood := { row := fnExactUpdateTextUptoRow, standIns := [], harness := (true, "c0bef4ca36b0d0823c6e9505a759177402e4e3b422af5280f0c0b55cb0628ea7"), looks := true }, kinds := [], alts := [], laidByText := true, laidKinds := [.data, .data, .data], laidTests := true, laidLooks := .later }
def FnExactUpdateTextUptoCardSaid : Prop := Claim7.holds Tryd.pinned (.plain (OpenSpec.upto fnExactUpdateTextSpec)) fnExactUpdateTextUptoCard

/-- THE SECOND FORM's CARD OF 'laws.FnExactLogText'. -/
def fnExactLogTextUptoCard : Claim7 := { stood := { row := fnExactLogTextUptoRow, standIns := [], harness := (true, "c0bef4ca36b0d0823c6e9505a759177402e4e3b422af5280f0c0b55cb0628ea7"), looks := true }, kinds := [], alts := [], laidByText := true, laidKinds := [.data, .data, .data], laidTests := true, laidLooks := .later }
def FnExactLogTextUptoCardSaid : Prop := Claim7.holds Tryd.pinned (.plain (OpenSpec.upto fnExactLogTextSpec)) fnExactLogTextUptoCard

/-- THE SECOND FORM's CARD OF 'laws.FnLogTextJoin'. -/
def fnLogTextJoinUptoCard : Claim7 := { stood := { row := fnLogTextJoinUptoRow, standIns := [], harness := (true, "c0bef4ca36b0d0823c6e9505a759177402e4e3b422af5280f0c0b55cb0628ea7"), looks := true }, kinds := [], alts := [], laidByText := true, laidKinds := [.data, .data, .data], laidTests := true, laidLooks := .later }
def FnLogTextJoinUptoCardSaid : Prop := Claim7.holds Tryd.pinned (.plain (OpenSpec.upto fnLogTextJoinSpec)) fnLogTextJoinUptoCard

/-- THE SECOND FORM's CARD OF 'laws.FnChainText'. -/
def fnChainTextUptoCard : Claim7 := { stood := { row := fnChainTextUptoRow, standIns := [], harness := (true, "c0bef4ca36b0d0823c6e9505a759177402e4e3b422af5280f0c0b55cb0628ea7"), looks := true }, kinds := [], alts := [], laidByText := true, laidKinds := [.data, .data, .data], laidTests := true, laidLooks := .later }
def FnChainTextUptoCardSaid : Prop := Claim7.holds Tryd.pinned (.plain (OpenSpec.upto fnChainTextSpec)) fnChainTextUptoCard

/-- THE SECOND FORM's CARD OF 'laws.FnChainTextNode'. -/
def fnChainTextNodeUptoCard : Claim7 := { stood := { row := fnChainTextNodeUptoRow, standIns := [], harness := (true, "c0bef4ca36b0d0823c6e9505a759177402e4e3b422af5280f0c0b55cb0628ea7"), looks := true }, kinds := [], alts := [], laidByText := true, laidKinds := [.data, .data, .data], laidTests := true, laidLooks := .later }
def FnChainTextNodeUptoCardSaid : Prop := Claim7.holds Tryd.pinned (.plain (OpenSpec.upto fnChainTextNodeSpec)) fnChainTextNodeUptoCard

/-- THE SECOND FORM's CARD OF 'laws.FnExactChainText'. -/
def fnExactChainTextUptoCard : Claim7 := { stood := { row := fnExactChainTextUptoRow, standIns := [], harness := (true, "c0bef4ca36b0d0823c6e9505a759177402e4e3b422af5280f0c0b55cb0628ea7"), looks := true }, kinds := [], alts := [], laidByText := true, laidKinds := [.data, .data, .data], laidTests := true, laidLooks := .later }
def FnExactChainTextUptoCardSaid : Prop := Claim7.holds Tryd.pinned (.plain (OpenSpec.upto fnExactChainTextSpec)) fnExactChainTextUptoCard

/-- THE SECOND FORM's CARD OF 'laws.FnUpdateText'. -/
def fnUpdateTextUptoCard : Claim7 := { stood := { row := fnUpdateTextUptoRow, standIns := [], harness := (true, "c0bef4ca36b0d0823c6e9505a759177402e4e3b422af5280f0c0b55cb0628ea7"), looks := true }, kinds := [], alts := [], laidByText := true, laidKinds := [.data, .data, .data, .data, .handle, .pinned], laidTests := true, laidLooks := .later }
def FnUpdateTextUptoCardSaid : Prop := Claim7.holds Tryd.pinned (.plain (OpenSpec.upto fnUpdateTextSpec)) fnUpdateTextUptoCard

/-- THE SECOND FORM's CARD OF 'laws.FnExactLogFrom'. -/
def fnExactLogFromUptoCard : Claim7 := { stood := { row := fnExactLogFromUptoRow, standIns := [], harness := (true, "c0bef4ca36b0d0823c6e9505a759177402e4e3b422af5280f0c0b55cb0628ea7"), looks := true }, kinds := [], alts := [], laidByText := true, laidKinds := [.data, .data, .data, .data, .handle, .pinned], laidTests := true, laidLooks := .later }
def FnExactLogFromUptoCardSaid : Prop := Claim7.holds Tryd.pinned (.plain (OpenSpec.upto fnExactLogFromSpec)) fnExactLogFromUptoCard

/-- THE SECOND FORM's CARD OF 'laws.FnLogText'. -/
def fnLogTextUptoCard : Claim7 := { stood := { row := fnLogTextUptoRow, standIns := [], harness := (true, "c0bef4ca36b0d0823c6e9505a759177402e4e3b422af5280f0c0b55cb0628ea7"), looks := true }, kinds := [], alts := [], laidByText := true, laidKinds := [.data, .data, .data, .data, .handle, .pinned], laidTests := true, laidLooks := .later }
def FnLogTextUptoCardSaid : Prop := Claim7.holds Tryd.pinned (.plain (OpenSpec.upto fnLogTextSpec)) fnLogTextUptoCard

/-- THE SECOND FORM's CARD OF 'laws.FnLogFromNot'. -/
def fnLogFromNotUptoCard : Claim7 := { stood := { row := fnLogFromNotUptoRow, standIns := [], harness := (true, "c0bef4ca36b0d0823c6e9505a759177402e4e3b422af5280f0c0b55cb0628ea7"), looks := true }, kinds := [], alts := [], laidByText := true, laidKinds := [.data, .data, .data, .data, .handle, .pinned], laidTests := true, laidLooks := .later }
def FnLogFromNotUptoCardSaid : Prop := Claim7.holds Tryd.pinned (.plain (OpenSpec.upto fnLogFromNotSpec)) fnLogFromNotUptoCard

/-- THE SECOND FORM's CARD OF 'laws.FnLogFrom'. -/
def fnLogFromUptoCard : Claim7 := { stood := { row := fnLogFromUptoRow, standIns := [], harness := (true, "c0bef4ca36b0d0823c6e9505a759177402e4e3b422af5280f0c0b55cb0628ea7"), looks := true }, kinds := [], alts := [], laidByText := true, laidKinds := [.data, .data, .data, .data, .handle, .pinned], laidTests := true, laidLooks := .later }
def FnLogFromUptoCardSaid : Prop := Claim7.holds Tryd.pinned (.plain (OpenSpec.upto fnLogFromSpec)) fnLogFromUptoCard
end Rows
end Go.Proofs.YtebklbncfcdkmaaDoor
