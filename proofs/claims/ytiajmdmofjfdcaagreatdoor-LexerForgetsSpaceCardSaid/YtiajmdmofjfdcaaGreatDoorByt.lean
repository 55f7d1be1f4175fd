/-
  Types of bytes and strings; a number's lowest byte. Conditions: none.
-/
import Derived.Test.YtiajmdmofjfdcaaGreatDoorRegion
namespace Go.Proofs.YtiajmdmofjfdcaaGreatDoor
set_option linter.unusedSimpArgs false
set_option linter.unusedVariables false
open Go.RowKit
theorem bytesTy : BytesTy Tryz.prog 47 5 := ⟨by kernel_rfl, by kernel_rfl⟩
theorem strTy : Tryz.prog.underlying 9 = some .string := by kernel_rfl
theorem elemBytes : ElemOk Tryz.prog 47 5 := by
  obtain ⟨i, h1, h2, h3, h4⟩ := info_parts (show (Tryz.prog.info? 5).map (fun i => (i.zero, i.size, i.bytes)) = some (some (.int .u8 0), 1, 1) by kernel_rfl)
  exact ⟨by kernel_rfl, i, .int .u8 0, h1, h2, h3, by omega, rfl⟩
def byteOf (n : Int) : UInt8 := UInt8.ofNat (n % 256).toNat
theorem byteOf_nat (n : Int) : ((byteOf n).toNat : Int) = n % 256 := by
  unfold byteOf
  rw [UInt8.toNat_ofNat']
  omega
end Go.Proofs.YtiajmdmofjfdcaaGreatDoor
