/-
  The documentation's examples of seals, reckoned. Conditions: none.
-/
import Derived.Test.YtfnpeclomcnpeaaDoorOpn
namespace Go.Proofs.YtfnpeclomcnpeaaDoor
set_option linter.unusedSimpArgs false
set_option linter.unusedVariables false
open Go.RowKit Ring Sha
abbrev kA : Key := ⟨5, 1, ⟨#[115]⟩, 0, 100⟩
abbrev kB : Key := ⟨5, 2, ⟨#[115]⟩, 7, 7⟩
abbrev kC : Key := ⟨5, 1, ⟨#[115]⟩, 0, 50⟩
abbrev kD : Key := ⟨5, 2, ⟨#[116]⟩, 50, 1048577⟩
theorem ev_add1 : addR kA [] = ([kA], 0) := by rfl
theorem ev_add2 : addR kA [kA] = ([], 6) := by rfl
theorem ev_add3 : addR kB [kA] = ([], 1) := by rfl
theorem ev_cur1 : curV 99 (of 5 [kA]) = (kA, 0) := by rfl
theorem ev_cur2 : curV 100 (of 5 [kA]) = (zeroKey, 9) := by rfl
theorem ev_cur3 : curV 99 (of 6 [kA]) = (zeroKey, 5) := by rfl
theorem ev_rot : rotR 5 ⟨#[116]⟩ 50 [kA] = ([kC, kD], 0) := by rfl
theorem ev_ring : ringB [kC, kD] = true := by rfl
theorem ev_sorted : Sorted [kA] := by simp [Sorted]
theorem ev_valid : ∀ k ∈ [kA], validB k = true := by
  intro k hk
  simp only [List.mem_singleton] at hk
  subst hk
  rfl
theorem ev_wfA : WfK kA := ⟨rfl, rfl, by simp [maxLen, ByteArray.size], rfl, rfl⟩
theorem ev_wfB : WfK kB := ⟨rfl, rfl, by simp [maxLen, ByteArray.size], rfl, rfl⟩
theorem ev_wfC : ∀ x ∈ [kC, kD], WfK x := by
  intro k hk
  simp only [List.mem_cons, List.not_mem_nil, or_false] at hk
  rcases hk with rfl | rfl
  · exact ⟨rfl, rfl, by simp [maxLen, ByteArray.size], rfl, rfl⟩
  · exact ⟨rfl, rfl, by simp [maxLen, ByteArray.size], rfl, rfl⟩
theorem ev_seal : decide (sealL ⟨#[115]⟩ 7 [⟨#[121]⟩] = sealL ⟨#[115]⟩ 7 [⟨#[120]⟩]) = false := by decide +kernel
theorem ev_blind : decide (blindL ⟨#[109]⟩ [⟨#[120]⟩] = blindL ⟨#[110]⟩ [⟨#[120]⟩]) = false := by decide +kernel
end Go.Proofs.YtfnpeclomcnpeaaDoor
