/-
  sync.Mutex in this program: the numbers under which it holds the library's text (for the kit's contracts of Lock and Unlock). Conditions: none.
-/
import Derived.Test.YtiajmdmofjfdcaaGreatDoorProg
import Derived.Conc.MuLone
import Derived.KernelRfl
namespace Go.Proofs.YtiajmdmofjfdcaaGreatDoor
noncomputable abbrev muLink : Go.Conc.Locks.MuLink := { lock := 110, unlock := 111, ilock := 116, iunlock := 117, lockSlow := 130, unlockSlow := 133, disable := 126, enable := 128, acquire := 129, relMerge := 131, cas32 := 127, add32 := 132, tMutex := 122, tIMutex := 120, tPMutex := Tryz.f110.params.getD 0 0, tPIMutex := Tryz.f116.params.getD 0 0, tPI32 := 199, tUP := 152, tNoCopy := 115, tU32 := 105 }
theorem muLib : Go.Conc.Locks.MuLib Tryz.prog muLink where
  f_lock := Tryz.func110.trans (by kernel_rfl)
  f_unlock := Tryz.func111.trans (by kernel_rfl)
  f_ilock := Tryz.func116.trans (by kernel_rfl)
  f_iunlock := Tryz.func117.trans (by kernel_rfl)
  f_disable := Tryz.func126.trans (by kernel_rfl)
  f_enable := Tryz.func128.trans (by kernel_rfl)
  f_acquire := Tryz.func129.trans (by kernel_rfl)
  f_relMerge := Tryz.func131.trans (by kernel_rfl)
  f_cas32 := Tryz.func127.trans (by kernel_rfl)
  f_add32 := Tryz.func132.trans (by kernel_rfl)
  underlying_tIMutex := by kernel_rfl
  runUnderlying_tIMutex := fun w => by kernel_rfl
  sizeOf_tIMutex := fun w => by kernel_rfl
  isAgg_tIMutex := fun w => by kernel_rfl
  zeroValue_tIMutex := fun w => by kernel_rfl
  underlying_tMutex := by kernel_rfl
  runUnderlying_tMutex := fun w => by kernel_rfl
  sizeOf_tMutex := fun w => by kernel_rfl
  isAgg_tMutex := fun w => by kernel_rfl
  zeroValue_tMutex := fun w => by kernel_rfl
  underlying_tPMutex := by kernel_rfl
  runUnderlying_tPMutex := fun w => by kernel_rfl
  sizeOf_tPMutex := fun w => by kernel_rfl
  isAgg_tPMutex := fun w => by kernel_rfl
  zeroValue_tPMutex := fun w => by kernel_rfl
  underlying_tPIMutex := by kernel_rfl
  runUnderlying_tPIMutex := fun w => by kernel_rfl
  sizeOf_tPIMutex := fun w => by kernel_rfl
  isAgg_tPIMutex := fun w => by kernel_rfl
  zeroValue_tPIMutex := fun w => by kernel_rfl
  underlying_tPI32 := by kernel_rfl
  runUnderlying_tPI32 := fun w => by kernel_rfl
  sizeOf_tPI32 := fun w => by kernel_rfl
  isAgg_tPI32 := fun w => by kernel_rfl
  zeroValue_tPI32 := fun w => by kernel_rfl
  underlying_tUP := by kernel_rfl
  runUnderlying_tUP := fun w => by kernel_rfl
  sizeOf_tUP := fun w => by kernel_rfl
  isAgg_tUP := fun w => by kernel_rfl
  zeroValue_tUP := fun w => by kernel_rfl
  underlying_tNoCopy := by kernel_rfl
  runUnderlying_tNoCopy := fun w => by kernel_rfl
  sizeOf_tNoCopy := fun w => by kernel_rfl
  isAgg_tNoCopy := fun w => by kernel_rfl
  zeroValue_tNoCopy := fun w => by kernel_rfl
  underlying_t21 := by kernel_rfl
  runUnderlying_t21 := fun w => by kernel_rfl
  sizeOf_t21 := fun w => by kernel_rfl
  isAgg_t21 := fun w => by kernel_rfl
  zeroValue_t21 := fun w => by kernel_rfl
  room_tIMutex := by kernel_rfl
end Go.Proofs.YtiajmdmofjfdcaaGreatDoor
