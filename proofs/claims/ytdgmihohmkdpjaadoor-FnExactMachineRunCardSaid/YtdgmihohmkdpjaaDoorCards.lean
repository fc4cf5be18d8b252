/-
  DERIVED. GIVEN WITH THE SEED: THE CARDS: each row of YtdgmihohmkdpjaaDoorRows.lean that lists a variable, with what it lists TIED to the program's text (the seventh form; the later family's looks); each row that meets fmt, with fmt's text TOLD by the authors' own Lean function (tested against real Go, not proved from fmt's source: count such statements apart). THE CARD IS WHAT COUNTS. Prove the row's statement (the work); the ties are given (YtdgmihohmkdpjaaDoorTie.lean); close each card by the builder's one call (the guide's Derived/Test/ToyasCard.lean, 'card_holds'). Laid BY PROGRAM, IN A SANDBOX (cutbox-door.mjs). By AI agents, Wed Nov 11 2026. No macro, syntax, notation, axiom, sorry.
-/
import Derived.Test.YtdgmihohmkdpjaaDoorRows
import GoSem.ClaimSeven
namespace Go.Proofs.YtdgmihohmkdpjaaDoor
namespace Rows

/-- THE TIED CARD OF 'laws.FnExactMachineStep'. -/
def fnExactMachineStepCard : Claim7 := { stood := { row := fnExactMachineStepRow, standIns := [], harness := (true, "17f2326bde6f29552ce6926a90d4d51b8ec58bd4a7d783aca9405e8b01358471"), looks := false }, kinds := [], alts := [], laidByText := true, laidKinds := [.wider, .data], laidTests := true, laidLooks := .later }
def FnExactMachineStepCardSaid : Prop := Claim7.holds Tryd.pinned (.plain (OpenSpec.ofChange fnExactMachineStepSpec)) fnExactMachineStepCard

/-- THE TIED CARD OF 'laws.FnExactMachineRun'. -/
def fnExactMachineRunCard : Claim7 := { stood := { row := fnExactMachineRunRow, standIns := [], harness := (true, "17f2326bde6f29552ce6926a90d4d51b8ec58bd4a7d783aca9405e8b01358471"), looks := false }, kinds := [], alts := [], laidByText := true, laidKinds := [.wider, .data], laidTests := true, laidLooks := .later }
def FnExactMachineRunCardSaid : Prop := Claim7.holds Tryd.pinned (.plain (OpenSpec.ofChange fnExactMachineRunSpec)) fnExactMachineRunCard

/-- THE TIED CARD OF 'laws.FnMachineNext'. -/
def fnMachineNextCard : Claim7 := { stood := { row := fnMachineNextRow, standIns := [], harness := (true, "17f2326bde6f29552ce6926a90d4d51b8ec58bd4a7d783aca9405e8b01358471"), looks := false }, kinds := [], alts := [], laidByText := true, laidKinds := [.wider, .data], laidTests := true, laidLooks := .later }
def FnMachineNextCardSaid : Prop := Claim7.holds Tryd.pinned (.plain (OpenSpec.ofChange fnMachineNextSpec)) fnMachineNextCard

/-- THE TIED CARD OF 'laws.FnMachineStep'. -/
def fnMachineStepCard : Claim7 := { stood := { row := fnMachineStepRow, standIns := [], harness := (true, "17f2326bde6f29552ce6926a90d4d51b8ec58bd4a7d783aca9405e8b01358471"), looks := false }, kinds := [], alts := [], laidByText := true, laidKinds := [.wider, .data], laidTests := true, laidLooks := .later }
def FnMachineStepCardSaid : Prop := Claim7.holds Tryd.pinned (.plain (OpenSpec.ofChange fnMachineStepSpec)) fnMachineStepCard

/-- THE TIED CARD OF 'laws.FnMachineStill'. -/
def fnMachineStillCard : Claim7 := { stood := { row := fnMachineStillRow, standIns := [], harness := (true, "17f2326bde6f29552ce6926a90d4d51b8ec58bd4a7d783aca9405e8b01358471"), looks := false }, kinds := [], alts := [], laidByText := true, laidKinds := [.wider, .data], laidTests := true, laidLooks := .later }
def FnMachineStillCardSaid : Prop := Claim7.holds Tryd.pinned (.plain (OpenSpec.ofChange fnMachineStillSpec)) fnMachineStillCard

/-- THE TIED CARD OF 'laws.FnMachineDecode'. -/
def fnMachineDecodeCard : Claim7 := { stood := { row := fnMachineDecodeRow, standIns := [], harness := (true, "17f2326bde6f29552ce6926a90d4d51b8ec58bd4a7d783aca9405e8b01358471"), looks := false }, kinds := [], alts := [], laidByText := true, laidKinds := [.wider, .data], laidTests := true, laidLooks := .later }
def FnMachineDecodeCardSaid : Prop := Claim7.holds Tryd.pinned (.plain (OpenSpec.ofChange fnMachineDecodeSpec)) fnMachineDecodeCard

/-- THE TIED CARD OF 'laws.FnMachineOne'. -/
def fnMachineOneCard : Claim7 := { stood := { row := fnMachineOneRow, standIns := [], harness := (true, "17f2326bde6f29552ce6926a90d4d51b8ec58bd4a7d783aca9405e8b01358471"), looks := false }, kinds := [], alts := [], laidByText := true, laidKinds := [.wider, .data], laidTests := true, laidLooks := .later }
def FnMachineOneCardSaid : Prop := Claim7.holds Tryd.pinned (.plain (OpenSpec.ofChange fnMachineOneSpec)) fnMachineOneCard

/-- THE TIED CARD OF 'laws.FnMachineAlu'. -/
def fnMachineAluCard : Claim7 := { stood := { row := fnMachineAluRow, standIns := [], harness := (true, "17f2326bde6f29552ce6926a90d4d51b8ec58bd4a7d783aca9405e8b01358471"), looks := false }, kinds := [], alts := [], laidByText := true, laidKinds := [.wider, .data], laidTests := true, laidLooks := .later }
def FnMachineAluCardSaid : Prop := Claim7.holds Tryd.pinned (.plain (OpenSpec.ofChange fnMachineAluSpec)) fnMachineAluCard

/-- THE TIED CARD OF 'laws.FnMachineRun'. -/
def fnMachineRunCard : Claim7 := { stood := { row := fnMachineRunRow, standIns := [], harness := (true, "17f2326bde6f29552ce6926a90d4d51b8ec58bd4a7d783aca9405e8b01358471"), looks := false }, kinds := [], alts := [], laidByText := true, laidKinds := [.wider, .data], laidTests := true, laidLooks := .later }
def FnMachineRunCardSaid : Prop := Claim7.holds Tryd.pinned (.plain (OpenSpec.ofChange fnMachineRunSpec)) fnMachineRunCard

/-- THE TIED CARD OF 'laws.FnMachineRunOne'. -/
def fnMachineRunOneCard : Claim7 := { stood := { row := fnMachineRunOneRow, standIns := [], harness := (true, "17f2326bde6f29552ce6926a90d4d51b8ec58bd4a7d783aca9405e8b01358471"), looks := false }, kinds := [], alts := [], laidByText := true, laidKinds := [.wider, .data], laidTests := true, laidLooks := .later }
def FnMachineRunOneCardSaid : Prop := Claim7.holds Tryd.pinned (.plain (OpenSpec.ofChange fnMachineRunOneSpec)) fnMachineRunOneCard

/-- THE SECOND FORM's CARD OF 'laws.FnExactMachineStep'. -/
def fnExactMachineStepUptoCard : Claim7 := { stood := { row := fnExactMachineStepUptoRow, standIns := [], harness := (true, "17f2326bde6f29552ce6926a90d4d51b8ec58bd4a7d783aca9405e8b01358471"), looks := false }, kinds := [], alts := [], laidByText := true, laidKinds := [.wider, .data], laidTests := true, laidLooks := .later }
def FnExactMachineStepUptoCardSaid : Prop := Claim7.holds Tryd.pinned (.plain (OpenSpec.upto fnExactMachineStepSpec)) fnExactMachineStepUptoCard

/-- THE SECOND FORM's CARD OF 'laws.FnExactMachineRun'. -/
def fnExactMachineRunUptoCard : Claim7 := { stood := { row := fnExactMachineRunUptoRow, standIns := [], harness := (true, "17f2326bde6f29552ce6926a90d4d51b8ec58bd4a7d783aca9405e8b01358471"), looks := false }, kinds := [], alts := [], laidByText := true, laidKinds := [.wider, .data], laidTests := true, laidLooks := .later }
def FnExactMachineRunUptoCardSaid : Prop := Claim7.holds Tryd.pinned (.plain (OpenSpec.upto fnExactMachineRunSpec)) fnExactMachineRunUptoCard

/-- THE SECOND FORM's CARD OF 'laws.FnMachineNext'. -/
def fnMachineNextUptoCard : Claim7 := { stood := { row := fnMachineNextUptoRow, standIns := [], harness := (true, "17f2326bde6f29552ce6926a90d4d51b8ec58bd4a7d783aca9405e8b01358471"), looks := false }, kinds := [], alts := [], laidByText := true, laidKinds := [.wider, .data], laidTests := true, laidLooks := .later }
def FnMachineNextUptoCardSaid : Prop := Claim7.holds Tryd.pinned (.plain (OpenSpec.upto fnMachineNextSpec)) fnMachineNextUptoCard

/-- THE SECOND FORM's CARD OF 'laws.FnMachineStep'. -/
def fnMachineStepUptoCard : Claim7 := { stood := { row := fnMachineStepUptoRow, standIns := [], harness := (true, "17f2326bde6f29552ce6926a90d4d51b8ec58bd4a7d783aca9405e8b01358471"), looks := false }, kinds := [], alts := [], laidByText := true, laidKinds := [.wider, .data], laidTests := true, laidLooks := .later }
def FnMachineStepUptoCardSaid : Prop := Claim7.holds Tryd.pinned (.plain (OpenSpec.upto fnMachineStepSpec)) fnMachineStepUptoCard

/-- THE SECOND FORM's CARD OF 'laws.FnMachineStill'. -/
def fnMachineStillUptoCard : Claim7 := { stood := { row := fnMachineStillUptoRow, standIns := [], harness := (true, "17f2326bde6f29552ce6926a90d4d51b8ec58bd4a7d783aca9405e8b01358471"), looks := false }, kinds := [], alts := [], laidByText := true, laidKinds := [.wider, .data], laidTests := true, laidLooks := .later }
def FnMachineStillUptoCardSaid : Prop := Claim7.holds Tryd.pinned (.plain (OpenSpec.upto fnMachineStillSpec)) fnMachineStillUptoCard

/-- THE SECOND FORM's CARD OF 'laws.FnMachineDecode'. -/
def fnMachineDecodeUptoCard : Claim7 := { stood := { row := fnMachineDecodeUptoRow, standIns := [], harness := (true, "17f2326bde6f29552ce6926a90d4d51b8ec58bd4a7d783aca9405e8b01358471"), looks := false }, kinds := [], alts := [], laidByText := true, laidKinds := [.wider, .data], laidTests := true, laidLooks := .later }
def FnMachineDecodeUptoCardSaid : Prop := Claim7.holds Tryd.pinned (.plain (OpenSpec.upto fnMachineDecodeSpec)) fnMachineDecodeUptoCard

/-- THE SECOND FORM's CARD OF 'laws.FnMachineOne'. -/
def fnMachineOneUptoCard : Claim7 := { stood := { row := fnMachineOneUptoRow, standIns := [], harness := (true, "17f2326bde6f29552ce6926a90d4d51b8ec58bd4a7d783aca9405e8b01358471"), looks := false }, kinds := [], alts := [], laidByText := true, laidKinds := [.wider, .data], laidTests := true, laidLooks := .later }
def FnMachineOneUptoCardSaid : Prop := Claim7.holds Tryd.pinned (.plain (OpenSpec.upto fnMachineOneSpec)) fnMachineOneUptoCard

/-- THE SECOND FORM's CARD OF 'laws.FnMachineAlu'. -/
def fnMachineAluUptoCard : Claim7 := { stood := { row := fnMachineAluUptoRow, standIns := [], harness := (true, "17f2326bde6f29552ce6926a90d4d51b8ec58bd4a7d783aca9405e8b01358471"), looks := false }, kinds := [], alts := [], laidByText := true, laidKinds := [.wider, .data], laidTests := true, laidLooks := .later }
def FnMachineAluUptoCardSaid : Prop := Claim7.holds Tryd.pinned (.plain (OpenSpec.upto fnMachineAluSpec)) fnMachineAluUptoCard

/-- THE SECOND FORM's CARD OF 'laws.FnMachineRun'. -/
def fnMachineRunUptoCard : Claim7 := { stood := { row := fnMachineRunUptoRow, standIns := [], harness := (true, "17f2326bde6f29552ce6926a90d4d51b8ec58bd4a7d783aca9405e8b01358471"), looks := false }, kinds := [], alts := [], laidByText := true, laidKinds := [.wider, .data], laidTests := true, laidLooks := .later }
def FnMachineRunUptoCardSaid : Prop := Claim7.holds Tryd.pinned (.plain (OpenSpec.upto fnMachineRunSpec)) fnMachineRunUptoCard

/-- THE SECOND FORM's CARD OF 'laws.FnMachineRunOne'. -/
def fnMachineRunOneUptoCard : Claim7 := { stood := { row := fnMachineRunOneUptoRow, standIns := [], harness := (true, "17f2326bde6f29552ce6926a90d4d51b8ec58bd4a7d783aca9405e8b01358471"), looks := false }, kinds := [], alts := [], laidByText := true, laidKinds := [.wider, .data], laidTests := true, laidLooks := .later }
def FnMachineRunOneUptoCardSaid : Prop := Claim7.holds Tryd.pinned (.plain (OpenSpec.upto fnMachineRunOneSpec)) fnMachineRunOneUptoCard
end Rows
end Go.Proofs.YtdgmihohmkdpjaaDoor
