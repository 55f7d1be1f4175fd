/-
  DERIVED. GIVEN WITH THE SEED: THE CARDS: each row of YtcehaojohfbfkaaDoorRows.lean that lists a variable, with what it lists TIED to the program's text (the seventh form; the later family's looks); each row that meets fmt, with fmt's text TOLD by the authors' own Lean function (tested against real Go, not proved from fmt's source: count such statements apart). THE CARD IS WHAT COUNTS. Prove the row's statement (the work); the ties are given (YtcehaojohfbfkaaDoorTie.lean); close each card by the builder's one call (the guide's Derived/Test/ToyasCard.lean, 'card_holds'). Laid BY PROGRAM, IN A SANDBOX (cutbox-door.mjs). By AI agents, Wed Nov 11 2026. No macro, syntax, notation, axiom, sorry.
-/
import Derived.Test.YtcehaojohfbfkaaDoorRows
import GoSem.ClaimSeven
namespace Go.Proofs.YtcehaojohfbfkaaDoor
namespace Rows

/-- THE TIED CARD OF 'antiquarylaw07.ProjectMakesAsSpecified'. -/
def projectMakesAsSpecifiedCard : Claim7 := { stood := { row := projectMakesAsSpecifiedRow, standIns := [], harness := (true, "8e996d076b0c5567aa4bcc948e4c41650653aa30c2ab4ea2ae70f7d9a4be3c51"), looks := false }, kinds := [], alts := [], laidByText := true, laidKinds := [.data, .data], laidTests := true, laidLooks := .later }
def ProjectMakesAsSpecifiedCardSaid : Prop := Claim7.holds Tryd.pinned (.plain (OpenSpec.ofChange projectMakesAsSpecifiedSpec)) projectMakesAsSpecifiedCard

/-- THE TIED CARD OF 'antiquarylaw07.ProjectRangesAsSpecified'. -/
def projectRangesAsSpecifiedCard : Claim7 := { stood := { row := projectRangesAsSpecifiedRow, standIns := [], harness := (true, "8e996d076b0c5567aa4bcc948e4c41650653aa30c2ab4ea2ae70f7d9a4be3c51"), looks := false }, kinds := [], alts := [], laidByText := true, laidKinds := [.data], laidTests := true, laidLooks := .later }
def ProjectRangesAsSpecifiedCardSaid : Prop := Claim7.holds Tryd.pinned (.plain (OpenSpec.ofChange projectRangesAsSpecifiedSpec)) projectRangesAsSpecifiedCard

/-- THE TIED CARD OF 'antiquarylaw07.ProjectBoundsAsSpecified'. -/
def projectBoundsAsSpecifiedCard : Claim7 := { stood := { row := projectBoundsAsSpecifiedRow, standIns := [], harness := (true, "8e996d076b0c5567aa4bcc948e4c41650653aa30c2ab4ea2ae70f7d9a4be3c51"), looks := false }, kinds := [], alts := [], laidByText := true, laidKinds := [.data], laidTests := true, laidLooks := .later }
def ProjectBoundsAsSpecifiedCardSaid : Prop := Claim7.holds Tryd.pinned (.plain (OpenSpec.ofChange projectBoundsAsSpecifiedSpec)) projectBoundsAsSpecifiedCard

/-- THE TIED CARD OF 'antiquarylaw07.ProjectWidens'. -/
def projectWidensCard : Claim7 := { stood := { row := projectWidensRow, standIns := [], harness := (true, "8e996d076b0c5567aa4bcc948e4c41650653aa30c2ab4ea2ae70f7d9a4be3c51"), looks := false }, kinds := [], alts := [], laidByText := true, laidKinds := [.data], laidTests := true, laidLooks := .later }
def ProjectWidensCardSaid : Prop := Claim7.holds Tryd.pinned (.plain (OpenSpec.ofChange projectWidensSpec)) projectWidensCard

/-- THE TIED CARD OF 'antiquarylaw07.ProjectForgetsScale'. -/
def projectForgetsScaleCard : Claim7 := { stood := { row := projectForgetsScaleRow, standIns := [], harness := (true, "8e996d076b0c5567aa4bcc948e4c41650653aa30c2ab4ea2ae70f7d9a4be3c51"), looks := false }, kinds := [], alts := [], laidByText := true, laidKinds := [.data], laidTests := true, laidLooks := .later }
def ProjectForgetsScaleCardSaid : Prop := Claim7.holds Tryd.pinned (.plain (OpenSpec.ofChange projectForgetsScaleSpec)) projectForgetsScaleCard

/-- THE TIED CARD OF 'antiquarylaw07.ProjectBoundsHold'. -/
def projectBoundsHoldCard : Claim7 := { stood := { row := projectBoundsHoldRow, standIns := [], harness := (true, "8e996d076b0c5567aa4bcc948e4c41650653aa30c2ab4ea2ae70f7d9a4be3c51"), looks := false }, kinds := [], alts := [], laidByText := true, laidKinds := [.data], laidTests := true, laidLooks := .later }
def ProjectBoundsHoldCardSaid : Prop := Claim7.holds Tryd.pinned (.plain (OpenSpec.ofChange projectBoundsHoldSpec)) projectBoundsHoldCard

/-- THE TIED CARD OF 'antiquarylaw07.ProjectAxesAreBoxes'. -/
def projectAxesAreBoxesCard : Claim7 := { stood := { row := projectAxesAreBoxesRow, standIns := [], harness := (true, "8e996d076b0c5567aa4bcc948e4c41650653aa30c2ab4ea2ae70f7d9a4be3c51"), looks := false }, kinds := [], alts := [], laidByText := true, laidKinds := [.data], laidTests := true, laidLooks := .later }
def ProjectAxesAreBoxesCardSaid : Prop := Claim7.holds Tryd.pinned (.plain (OpenSpec.ofChange projectAxesAreBoxesSpec)) projectAxesAreBoxesCard

/-- THE SECOND FORM's CARD OF 'antiquarylaw07.ProjectMakesAsSpecified'. -/
def projectMakesAsSpecifiedUptoCard : Claim7 := { stood := { row := projectMakesAsSpecifiedUptoRow, standIns := [], harness := (true, "8e996d076b0c5567aa4bcc948e4c41650653aa30c2ab4ea2ae70f7d9a4be3c51"), looks := false }, kinds := [], alts := [], laidByText := true, laidKinds := [.data, .data], laidTests := true, laidLooks := .later }
def ProjectMakesAsSpecifiedUptoCardSaid : Prop := Claim7.holds Tryd.pinned (.plain (OpenSpec.upto projectMakesAsSpecifiedSpec)) projectMakesAsSpecifiedUptoCard

/-- THE SECOND FORM's CARD OF 'antiquarylaw07.ProjectRangesAsSpecified'. -/
def projectRangesAsSpecifiedUptoCard : Claim7 := { stood := { row := projectRangesAsSpecifiedUptoRow, standIns := [], harness := (true, "8e996d076b0c5567aa4bcc948e4c41650653aa30c2ab4ea2ae70f7d9a4be3c51"), looks := false }, kinds := [], alts := [], laidByText := true, laidKinds := [.data], laidTests := true, laidLooks := .later }
def ProjectRangesAsSpecifiedUptoCardSaid : Prop := Claim7.holds Tryd.pinned (.plain (OpenSpec.upto projectRangesAsSpecifiedSpec)) projectRangesAsSpecifiedUptoCard

/-- THE SECOND FORM's CARD OF 'antiquarylaw07.ProjectBoundsAsSpecified'. -/
def projectBoundsAsSpecifiedUptoCard : Claim7 := { stood := { row := projectBoundsAsSpecifiedUptoRow, standIns := [], harness := (true, "8e996d076b0c5567aa4bcc948e4c41650653aa30c2ab4ea2ae70f7d9a4be3c51"), looks := false }, kinds := [], alts := [], laidByText := true, laidKinds := [.data], laidTests := true, laidLooks := .later }
def ProjectBoundsAsSpecifiedUptoCardSaid : Prop := Claim7.holds Tryd.pinned (.plain (OpenSpec.upto projectBoundsAsSpecifiedSpec)) projectBoundsAsSpecifiedUptoCard

/-- THE SECOND FORM's CARD OF 'antiquarylaw07.ProjectWidens'. -/
def projectWidensUptoCard : Claim7 := { stood := { row := projectWidensUptoRow, standIns := [], harness := (true, "8e996d076b0c5567aa4bcc948e4c41650653aa30c2ab4ea2ae70f7d9a4be3c51"), looks := false }, kinds := [], alts := [], laidByText := true, laidKinds := [.data], laidTests := true, laidLooks := .later }
def ProjectWidensUptoCardSaid : Prop := Claim7.holds Tryd.pinned (.plain (OpenSpec.upto projectWidensSpec)) projectWidensUptoCard

/-- THE SECOND FORM's CARD OF 'antiquarylaw07.ProjectForgetsScale'. -/
def projectForgetsScaleUptoCard : Claim7 := { stood := { row := projectForgetsScaleUptoRow, standIns := [], harness := (true, "8e996d076b0c5567aa4bcc948e4c41650653aa30c2ab4ea2ae70f7d9a4be3c51"), looks := false }, kinds := [], alts := [], laidByText := true, laidKinds := [.data], laidTests := true, laidLooks := .later }
def ProjectForgetsScaleUptoCardSaid : Prop := Claim7.holds Tryd.pinned (.plain (OpenSpec.upto projectForgetsScaleSpec)) projectForgetsScaleUptoCard

/-- THE SECOND FORM's CARD OF 'antiquarylaw07.ProjectBoundsHold'. -/
def projectBoundsHoldUptoCard : Claim7 := { stood := { row := projectBoundsHoldUptoRow, standIns := [], harness := (true, "8e996d076b0c5567aa4bcc948e4c41650653aa30c2ab4ea2ae70f7d9a4be3c51"), looks := false }, kinds := [], alts := [], laidByText := true, laidKinds := [.data], laidTests := true, laidLooks := .later }
def ProjectBoundsHoldUptoCardSaid : Prop := Claim7.holds Tryd.pinned (.plain (OpenSpec.upto projectBoundsHoldSpec)) projectBoundsHoldUptoCard

/-- THE SECOND FORM's CARD OF 'antiquarylaw07.ProjectAxesAreBoxes'. -/
def projectAxesAreBoxesUptoCard : Claim7 := { stood := { row := projectAxesAreBoxesUptoRow, standIns := [], harness := (true, "8e996d076b0c5567aa4bcc948e4c41650653aa30c2ab4ea2ae70f7d9a4be3c51"), looks := false }, kinds := [], alts := [], laidByText := true, laidKinds := [.data], laidTests := true, laidLooks := .later }
def ProjectAxesAreBoxesUptoCardSaid : Prop := Claim7.holds Tryd.pinned (.plain (OpenSpec.upto projectAxesAreBoxesSpec)) projectAxesAreBoxesUptoCard
end Rows
end Go.Proofs.YtcehaojohfbfkaaDoor
