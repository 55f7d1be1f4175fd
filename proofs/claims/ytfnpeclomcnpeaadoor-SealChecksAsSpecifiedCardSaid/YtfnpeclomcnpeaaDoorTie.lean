/-
  DERIVED. GIVEN WITH THE SEED: THE PROGRAM's TIES (one call each: nine closed facts by the kernel) AND EACH ROW's TIE, after the 31st guide's Derived/Test/Toyas{Tie, Card}.lean. No idea stands in it: it is a product of the set-up. Laid BY PROGRAM, IN A SANDBOX (cutbox-door.mjs). By AI agents, Wed Nov 11 2026. No macro, syntax, notation, axiom, sorry.
-/
import Derived.Test.YtfnpeclomcnpeaaDoorRows
import Derived.LaidByTextLater
import Derived.SevenTiedAt
import Derived.LaidSub
import Derived.LaidOnce
namespace Go.Proofs.YtfnpeclomcnpeaaDoor
open Go
set_option maxRecDepth 100000
theorem seatTie1 : Tryd.prog.laidByTextLater [("antiquary/antiquaryref02.constants", Rows.laid_antiquary_antiquaryref02_constants), ("antiquary/hash.constants", Rows.laid_antiquary_hash_constants)] [.data, .data] true :=
  Program.laidByTextLater_by_one 19 8 65 (by kernel_rfl) (by kernel_rfl) (by kernel_rfl) (by kernel_rfl) (by kernel_rfl) (by kernel_rfl) (fun _ _ => by kernel_rfl)
theorem noOwnUnsafe : Tryd.pinned.checked.prog.headLifts.contains "ownunsafe" = false := by kernel_rfl
theorem tie : Tryd.prog.laidByTextLater [("antiquary/hash.constants", Rows.laid_antiquary_hash_constants)] [.data] true :=
  Program.laidByTextLater.sub seatTie1 ["antiquary/hash.constants"] (by kernel_rfl) (by kernel_rfl)
theorem sealKeepsRings_row_tie : Rows.sealKeepsRingsRow.laidByTextAt .later Tryd.pinned [.data] true :=
  OpenClaim.laidByTextAt_later rfl rfl tie noOwnUnsafe
theorem sealRotatesInTime_row_tie : Rows.sealRotatesInTimeRow.laidByTextAt .later Tryd.pinned [.data] true :=
  OpenClaim.laidByTextAt_later rfl rfl tie noOwnUnsafe
theorem sealBlindsApart_row_tie : Rows.sealBlindsApartRow.laidByTextAt .later Tryd.pinned [.data] true :=
  OpenClaim.laidByTextAt_later rfl rfl tie noOwnUnsafe
theorem sealChangesRings_row_tie : Rows.sealChangesRingsRow.laidByTextAt .later Tryd.pinned [.data] true :=
  OpenClaim.laidByTextAt_later rfl rfl tie noOwnUnsafe
theorem sealHoldsInItsDays_row_tie : Rows.sealHoldsInItsDaysRow.laidByTextAt .later Tryd.pinned [.data] true :=
  OpenClaim.laidByTextAt_later rfl rfl tie noOwnUnsafe
theorem tie2 : Tryd.prog.laidByTextLater [("antiquary/antiquaryref02.constants", Rows.laid_antiquary_antiquaryref02_constants), ("antiquary/hash.constants", Rows.laid_antiquary_hash_constants)] [.data, .data] true :=
  Program.laidByTextLater.sub seatTie1 ["antiquary/antiquaryref02.constants", "antiquary/hash.constants"] (by kernel_rfl) (by kernel_rfl)
theorem sealChecksAsSpecified_row_tie : Rows.sealChecksAsSpecifiedRow.laidByTextAt .later Tryd.pinned [.data, .data] true :=
  OpenClaim.laidByTextAt_later rfl rfl tie2 noOwnUnsafe
theorem sealKeepsRingsUpto_row_tie : Rows.sealKeepsRingsUptoRow.laidByTextAt .later Tryd.pinned [.data] true :=
  OpenClaim.laidByTextAt_later rfl rfl tie noOwnUnsafe
theorem sealChecksAsSpecifiedUpto_row_tie : Rows.sealChecksAsSpecifiedUptoRow.laidByTextAt .later Tryd.pinned [.data, .data] true :=
  OpenClaim.laidByTextAt_later rfl rfl tie2 noOwnUnsafe
theorem sealRotatesInTimeUpto_row_tie : Rows.sealRotatesInTimeUptoRow.laidByTextAt .later Tryd.pinned [.data] true :=
  OpenClaim.laidByTextAt_later rfl rfl tie noOwnUnsafe
theorem sealBlindsApartUpto_row_tie : Rows.sealBlindsApartUptoRow.laidByTextAt .later Tryd.pinned [.data] true :=
  OpenClaim.laidByTextAt_later rfl rfl tie noOwnUnsafe
theorem sealChangesRingsUpto_row_tie : Rows.sealChangesRingsUptoRow.laidByTextAt .later Tryd.pinned [.data] true :=
  OpenClaim.laidByTextAt_later rfl rfl tie noOwnUnsafe
theorem sealHoldsInItsDaysUpto_row_tie : Rows.sealHoldsInItsDaysUptoRow.laidByTextAt .later Tryd.pinned [.data] true :=
  OpenClaim.laidByTextAt_later rfl rfl tie noOwnUnsafe
end Go.Proofs.YtfnpeclomcnpeaaDoor
