/-
  An array of 16 bytes that came in. Conditions: none.
-/
import Derived.Test.YtfnpeclomcnpeaaDoorByt
import Derived.Deep.Slices
import Derived.OpenShut
import Derived.ChangeSame
import Derived.WideKeyPair
namespace Go.Proofs.YtfnpeclomcnpeaaDoor
set_option linter.unusedSimpArgs false
set_option linter.unusedVariables false
open Go.ChangeShapes Go.WideShapes Go.RowKit
section
variable {H : Type} {enc : TypeId × Value → H} {W : World} {P : Program}
theorem open_b16 {t e : TypeId} (hu : P.underlying t = some (.array 16 e)) (he : P.underlying e = some (.int .u8)) (hc : P.cellsOf e = 1) (hct : P.cellsOf t = 16) {cs : Array Value} {d : DataW H} {p : List MemPlace}
    (h : DataW.Trod enc P W 0 (fun _ => true) true t (.agg cs) d p) : ∃ L : List UInt8, Value.agg cs = .agg (bv L).toArray ∧ L.length = 16 := by
  obtain ⟨fuel, hf⟩ := h
  obtain ⟨xs, m, _, _, hl, hxl, hrow⟩ := DataW.trod_array hu hf
  rw [hct] at hl
  simp only [Value.cells] at hl hrow
  have each : ∀ i, i < 16 → ∃ b : UInt8, cs.toList[i]? = some (.int .u8 (b.toNat : Nat)) := fun i hi => by
    have h1 := hrow i hi
    rw [hc, Nat.mul_one] at h1
    rw [List.getElem?_eq_getElem (by omega)] at h1
    obtain ⟨n, e1, _, hw⟩ := DataW.trod_int he h1
    have hn : 0 ≤ n ∧ n < 256 := by simp [Lit.wf, IntKind.min, IntKind.max, IntKind.bits, IntKind.signed] at hw; omega
    refine ⟨UInt8.ofNat n.toNat, ?_⟩
    have e2 : cs.toList[i]? = some (.int .u8 n) := by
      have h3 : (cs.toList.drop i)[0]? = some (.int .u8 n) := by
        have : ((cs.toList.drop i).take 1)[0]? = some (.int .u8 n) := by rw [e1]; rfl
        rwa [List.getElem?_take_of_lt (by omega)] at this
      rwa [List.getElem?_drop, Nat.add_zero] at h3
    rw [e2]
    have : ((UInt8.ofNat n.toNat).toNat : Int) = n := by simp; omega
    rw [this]
  haveI : Inhabited UInt8 := ⟨0⟩
  obtain ⟨f, hf2⟩ := Go.Deep.choose_lt each
  refine ⟨(List.range 16).map f, ?_, by simp⟩
  congr 1
  apply Array.ext'
  apply List.ext_getElem?
  intro i
  by_cases hi : i < 16
  · rw [hf2 i hi]
    simp [bv, hi]
  · rw [List.getElem?_eq_none (by omega), List.getElem?_eq_none (by simp [bv]; omega)]
end
end Go.Proofs.YtfnpeclomcnpeaaDoor
