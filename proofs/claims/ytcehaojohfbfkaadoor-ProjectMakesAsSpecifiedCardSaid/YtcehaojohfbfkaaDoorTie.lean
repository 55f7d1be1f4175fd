/-
  DERIVED. GIVEN WITH THE SEED: THE PROGRAM's TIES (one call each: nine closed facts by the kernel) AND EACH ROW's TIE, after the 31st guide's Derived/Test/Toyas{Tie, Card}.lean. No idea stands in it: it is a product of the set-up. Laid BY PROGRAM, IN A SANDBOX (cutbox-door.mjs). By AI agents, Wed Nov 11 2026. No macro, syntax, notation, axiom, sorry.
-/
import Derived.Test.YtcehaojohfbfkaaDoorRows
import Derived.LaidByTextLater
import Derived.SevenTiedAt
import Derived.LaidSub
import Derived.LaidOnce
namespace Go.Proofs.YtcehaojohfbfkaaDoor
open Go
set_option maxRecDepth 100000
theorem seatTie1 : Tryd.prog.laidByTextLater [("antiquary/antiquaryref02.constants", Rows.laid_antiquary_antiquaryref02_constants), ("antiquary/hash.constants", Rows.laid_antiquary_hash_constants)] [.data, .data] true :=
  Program.laidByTextLater_by_one 19 8 65 (by kernel_rfl) (by kernel_rfl) (by kernel_rfl) (by kernel_rfl) (by kernel_rfl) (by kernel_rfl) (fun _ _ => by kernel_rfl)
theorem noOwnUnsafe : Tryd.pinned.checked.prog.headLifts.contains "ownunsafe" = false := by kernel_rfl
theorem tie : Tryd.prog.laidByTextLater [("antiquary/antiquaryref02.constants", Rows.laid_antiquary_antiquaryref02_constants), ("antiquary/hash.constants", Rows.laid_antiquary_hash_constants)] [.data, .data] true :=
  Program.laidByTextLater.sub seatTie1 ["antiquary/antiquaryref02.constants", "antiquary/hash.constants"] (by kernel_rfl) (by kernel_rfl)
theorem projectMakesAsSpecified_row_tie : Rows.projectMakesAsSpecifiedRow.laidByTextAt .later Tryd.pinned [.data, .data] true :=
  OpenClaim.laidByTextAt_later rfl rfl tie noOwnUnsafe
theorem tie2 : Tryd.prog.laidByTextLater [("antiquary/hash.constants", Rows.laid_antiquary_hash_constants)] [.data] true :=
  Program.laidByTextLater.sub seatTie1 ["antiquary/hash.constants"] (by kernel_rfl) (by kernel_rfl)
theorem projectRangesAsSpecified_row_tie : Rows.projectRangesAsSpecifiedRow.laidByTextAt .later Tryd.pinned [.data] true :=
  OpenClaim.laidByTextAt_later rfl rfl tie2 noOwnUnsafe
theorem projectBoundsAsSpecified_row_tie : Rows.projectBoundsAsSpecifiedRow.laidByTextAt .later Tryd.pinned [.data] true :=
  OpenClaim.laidByTextAt_later rfl rfl tie2 noOwnUnsafe
theorem projectWidens_row_tie : Rows.projectWidensRow.laidByTextAt .later Tryd.pinned [.data] true :=
  OpenClaim.laidByTextAt_later rfl rfl tie2 noOwnUnsafe
theorem projectForgetsScale_row_tie : Rows.projectForgetsScaleRow.laidByTextAt .later Tryd.pinned [.data] true :=
  OpenClaim.laidByTextAt_later rfl rfl tie2 noOwnUnsafe
theorem projectBoundsHold_row_tie : Rows.projectBoundsHoldRow.laidByTextAt .later Tryd.pinned [.data] true :=
  OpenClaim.laidByTextAt_later rfl rfl tie2 noOwnUnsafe
theorem projectAxesAreBoxes_row_tie : Rows.projectAxesAreBoxesRow.laidByTextAt .later Tryd.pinned [.data] true :=
  OpenClaim.laidByTextAt_later rfl rfl tie2 noOwnUnsafe
theorem projectMakesAsSpecifiedUpto_row_tie : Rows.projectMakesAsSpecifiedUptoRow.laidByTextAt .later Tryd.pinned [.data, .data] true :=
  OpenClaim.laidByTextAt_later rfl rfl tie noOwnUnsafe
theorem projectRangesAsSpecifiedUpto_row_tie : Rows.projectRangesAsSpecifiedUptoRow.laidByTextAt .later Tryd.pinned [.data] true :=
  OpenClaim.laidByTextAt_later rfl rfl tie2 noOwnUnsafe
theorem projectBoundsAsSpecifiedUpto_row_tie : Rows.projectBoundsAsSpecifiedUptoRow.laidByTextAt .later Tryd.pinned [.data] true :=
  OpenClaim.laidByTextAt_later rfl rfl tie2 noOwnUnsafe
theorem projectWidensUpto_row_tie : Rows.projectWidensUptoRow.laidByTextAt .later Tryd.pinned [.data] true :=
  OpenClaim.laidByTextAt_later rfl rfl tie2 noOwnUnsafe
theorem projectForgetsScaleUpto_row_tie : Rows.projectForgetsScaleUptoRow.laidByTextAt .later Tryd.pinned [.data] true :=
  OpenClaim.laidByTextAt_later rfl rfl tie2 noOwnUnsafe
theorem projectBoundsHoldUpto_row_tie : Rows.projectBoundsHoldUptoRow.laidByTextAt .later Tryd.pinned [.data] true :=
  OpenClaim.laidByTextAt_later rfl rfl tie2 noOwnUnsafe
theorem projectAxesAreBoxesUpto_row_tie : Rows.projectAxesAreBoxesUptoRow.laidByTextAt .later Tryd.pinned [.data] true :=
  OpenClaim.laidByTextAt_later rfl rfl tie2 noOwnUnsafe
end Go.Proofs.YtcehaojohfbfkaaDoor
