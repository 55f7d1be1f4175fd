/-
  Known of the functions of this seat's laws, joined. Conditions: each theorem's own.
-/
import Derived.Test.YtcapckngikekpaaGreatDoorI13
namespace Go.Proofs.YtcapckngikekpaaGreatDoor
set_option linter.unusedSimpArgs false
set_option linter.unusedVariables false
set_option maxRecDepth 100000
set_option maxHeartbeats 16000000
section
open Go.ChangeShapes Go.WideShapes Go.ChangeAt Go.RowKit Exch Merk Ring
section
variable {H : Type} {enc : TypeId × Value → H} {W : World}
theorem zqf (l : List Bool) : l.flatMap (fun b => [Value.bool b]) = l.map Value.bool := by
 induction l with
 | nil => rfl
 | cons x l ih => rw [List.flatMap_cons, ih]; rfl
theorem open_rdBools {base : Nat} {v : Value} {d : DataW H} {p : List MemPlace} (hval : Value.okWide Tryz.prog W .any base 91 v) (h : DataW.Trod enc Tryz.prog W 0 (fun _ => true) true 91 v d p) :
  ∃ A n c, ∃ l : List Bool, v = .slice A n c ∧ n ≤ c ∧ c ≤ maxLen ∧ l.length = n ∧ Rd W A n (l.map Value.bool) := by
 obtain ⟨fuel, hf⟩ := h
 have uB : Tryz.prog.underlying 4 = some .bool := by kernel_rfl
 obtain ⟨A, n, c, l, e, h1, h2, h3, h4, -⟩ := zcr (t := 91) (e := 4) (by kernel_rfl) (k := 1) (by kernel_rfl) (by omega) (fun b : Bool => [Value.bool b]) (fun _ => rfl) (fun _ => True) (fun _ _ _ _ h => by
  obtain ⟨z, e, _⟩ := DataW.trod_bool uB h
  exact ⟨z, e, trivial⟩) hf
 have hs : Tryz.prog.underlying 91 = some (.slice 4) := by kernel_rfl
 obtain ⟨A0, n0, c0, rfl⟩ : ∃ A n c, v = .slice A n c := by
  cases v <;> simp only [Value.okWide, hs, Cell.okWide, Cell.ok] at hval <;> first | exact ⟨_, _, _, rfl⟩ | (simp [Value.cells] at e) | exact hval.elim
 simp only [Value.cells] at e
 injection e with e _
 injection e with e1 e2 e3
 subst e1; subst e2; subst e3
 exact ⟨_, _, _, l, rfl, h1, h2, h3, by rw [zqf, Nat.mul_one] at h4; exact h4⟩
end
end
end Go.Proofs.YtcapckngikekpaaGreatDoor
