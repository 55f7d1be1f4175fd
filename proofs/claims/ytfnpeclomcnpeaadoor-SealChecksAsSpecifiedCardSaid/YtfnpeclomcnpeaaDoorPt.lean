/-
  From the row's reading of a seal and a digest to the walks' premises. Conditions: none.
-/
import Derived.Test.YtfnpeclomcnpeaaDoorPs
import Derived.Test.YtfnpeclomcnpeaaDoorOb
namespace Go.Proofs.YtfnpeclomcnpeaaDoor
set_option linter.unusedSimpArgs false
set_option linter.unusedVariables false
open Go.ChangeShapes Go.WideShapes Go.ChangeAt Go.RowKit Sha
section
variable {H : Type} {enc : TypeId × Value → H} {W : World}
set_option maxRecDepth 20000 in
/-- A seal that came in. -/
theorem open_seal {base : Nat} {v : Value} {d : DataW H} {p : List MemPlace} (hval : Value.okWide Tryd.prog W .any base 43 v) (h : DataW.Trod enc Tryd.prog W 0 (fun _ => true) true 43 v d p) :
    ∃ L : List UInt8, v = .agg (bv L).toArray ∧ L.length = 16 := by
  have hu : Tryd.prog.underlying 43 = some (.array 16 5) := by kernel_rfl
  simp only [Value.okWide, hu] at hval
  obtain ⟨cs, rfl, _⟩ := hval
  exact open_b16 hu (by kernel_rfl) (by kernel_rfl) (by kernel_rfl) h
set_option maxRecDepth 20000 in
/-- A digest that came in. -/
theorem open_digest {base : Nat} {v : Value} {d : DataW H} {p : List MemPlace} (hval : Value.okWide Tryd.prog W .any base 44 v) (h : DataW.Trod enc Tryd.prog W 0 (fun _ => true) true 44 v d p) :
    ∃ L : List UInt8, v = .agg (bv L).toArray ∧ L.length = 16 := by
  have hu : Tryd.prog.underlying 44 = some (.array 16 5) := by kernel_rfl
  simp only [Value.okWide, hu] at hval
  obtain ⟨cs, rfl, _⟩ := hval
  exact open_b16 hu (by kernel_rfl) (by kernel_rfl) (by kernel_rfl) h
end
end Go.Proofs.YtfnpeclomcnpeaaDoor
