/-
  DERIVED. GIVEN WITH THE SEED: THE PROGRAM's TIES (one call each: nine closed facts by the kernel) AND EACH ROW's TIE, after the 31st guide's Derived/Test/Toyas{Tie, Card}.lean. No idea stands in it: it is a product of the set-up. Laid BY PROGRAM, IN A SANDBOX (cutbox-door.mjs). By AI agents, Wed Nov 11 2026. No macro, syntax, notation, axiom, sorry.
-/
import Derived.Test.YtieamjjnofelcaaDoorRows
import Derived.LaidByTextLater
import Derived.SevenTiedAt
import Derived.LaidSub
import Derived.LaidOnce
namespace Go.Proofs.YtieamjjnofelcaaDoor
open Go
set_option maxRecDepth 100000
theorem seatTie1 : Tryd.prog.laidByTextLater [("antiquary/antiquaryref02.constants", Rows.laid_antiquary_antiquaryref02_constants), ("antiquary/hash.constants", Rows.laid_antiquary_hash_constants)] [.data, .data] true :=
  Program.laidByTextLater_by_one 19 8 65 (by kernel_rfl) (by kernel_rfl) (by kernel_rfl) (by kernel_rfl) (by kernel_rfl) (by kernel_rfl) (fun _ _ => by kernel_rfl)
theorem noOwnUnsafe : Tryd.pinned.checked.prog.headLifts.contains "ownunsafe" = false := by kernel_rfl
theorem tie : Tryd.prog.laidByTextLater [("antiquary/antiquaryref02.constants", Rows.laid_antiquary_antiquaryref02_constants), ("antiquary/hash.constants", Rows.laid_antiquary_hash_constants)] [.data, .data] true :=
  Program.laidByTextLater.sub seatTie1 ["antiquary/antiquaryref02.constants", "antiquary/hash.constants"] (by kernel_rfl) (by kernel_rfl)
theorem exchangeStocksAsSpecified_row_tie : Rows.exchangeStocksAsSpecifiedRow.laidByTextAt .later Tryd.pinned [.data, .data] true :=
  OpenClaim.laidByTextAt_later rfl rfl tie noOwnUnsafe
theorem exchangeHearsAsSpecified_row_tie : Rows.exchangeHearsAsSpecifiedRow.laidByTextAt .later Tryd.pinned [.data, .data] true :=
  OpenClaim.laidByTextAt_later rfl rfl tie noOwnUnsafe
theorem exchangeMakesEqual_row_tie : Rows.exchangeMakesEqualRow.laidByTextAt .later Tryd.pinned [.data, .data] true :=
  OpenClaim.laidByTextAt_later rfl rfl tie noOwnUnsafe
theorem exchangeBearsLosses_row_tie : Rows.exchangeBearsLossesRow.laidByTextAt .later Tryd.pinned [.data, .data] true :=
  OpenClaim.laidByTextAt_later rfl rfl tie noOwnUnsafe
theorem exchangeSendsOnlyWhatIsNeeded_row_tie : Rows.exchangeSendsOnlyWhatIsNeededRow.laidByTextAt .later Tryd.pinned [.data, .data] true :=
  OpenClaim.laidByTextAt_later rfl rfl tie noOwnUnsafe
theorem exchangeHalvesDivide_row_tie : Rows.exchangeHalvesDivideRow.laidByTextAt .later Tryd.pinned [.data, .data] true :=
  OpenClaim.laidByTextAt_later rfl rfl tie noOwnUnsafe
theorem exchangeStocksAsSpecifiedUpto_row_tie : Rows.exchangeStocksAsSpecifiedUptoRow.laidByTextAt .later Tryd.pinned [.data, .data] true :=
  OpenClaim.laidByTextAt_later rfl rfl tie noOwnUnsafe
theorem exchangeHearsAsSpecifiedUpto_row_tie : Rows.exchangeHearsAsSpecifiedUptoRow.laidByTextAt .later Tryd.pinned [.data, .data] true :=
  OpenClaim.laidByTextAt_later rfl rfl tie noOwnUnsafe
theorem exchangeMakesEqualUpto_row_tie : Rows.exchangeMakesEqualUptoRow.laidByTextAt .later Tryd.pinned [.data, .data] true :=
  OpenClaim.laidByTextAt_later rfl rfl tie noOwnUnsafe
theorem exchangeBearsLossesUpto_row_tie : Rows.exchangeBearsLossesUptoRow.laidByTextAt .later Tryd.pinned [.data, .data] true :=
  OpenClaim.laidByTextAt_later rfl rfl tie noOwnUnsafe
theorem exchangeSendsOnlyWhatIsNeededUpto_row_tie : Rows.exchangeSendsOnlyWhatIsNeededUptoRow.laidByTextAt .later Tryd.pinned [.data, .data] true :=
  OpenClaim.laidByTextAt_later rfl rfl tie noOwnUnsafe
theorem exchangeHalvesDivideUpto_row_tie : Rows.exchangeHalvesDivideUptoRow.laidByTextAt .later Tryd.pinned [.data, .data] true :=
  OpenClaim.laidByTextAt_later rfl rfl tie noOwnUnsafe
end Go.Proofs.YtieamjjnofelcaaDoor
