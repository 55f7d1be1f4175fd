/-
  From the row's reading of the arguments and tables to the walks' premises. Conditions: none.
-/
import Derived.Test.YtfnpeclomcnpeaaDoorSs
import Derived.Test.YtfnpeclomcnpeaaDoorRSum
import Derived.Test.YtfnpeclomcnpeaaDoorCards
import Derived.Test.YtfnpeclomcnpeaaDoorTie
import Derived.ProofKit
import Derived.OpenShut
import Derived.ShutString
import Derived.SliceStrings
import Derived.Carry
import Derived.Deep.DeepHandedRow
import Derived.Lib.LaidTab
import Derived.Stop.LaidErr
namespace Go.Proofs.YtfnpeclomcnpeaaDoor
set_option linter.unusedSimpArgs false
set_option linter.unusedVariables false
open Go.ChangeShapes Go.WideShapes Go.ChangeAt Go.RowKit Sha

theorem own : ownKnob Tryd.prog.godebug = none := by kernel_rfl
theorem laidOut : laidOutB Tryd.prog = true := by kernel_rfl
theorem gCon : Tryd.prog.globalNamed "antiquary/hash.constants" = some 0 := by kernel_rfl
theorem gConT : (Tryd.prog.globals[0]?).map (·.type) = some 104 := by kernel_rfl
theorem con_of {W : World} {rest : List (String × DataW Unit)} (h : laidMet Tryd.prog (("antiquary/hash.constants", Rows.laid_antiquary_hash_constants) :: rest) W) : GCon W := by
  have t : Lib.TabIs Tryd.prog W "antiquary/hash.constants" .u32 (K.map fun n => ((n : Nat) : Int)) :=
    Lib.tabIs_of_head (rest := rest) gCon gConT (n := 64) (e := 81) (by kernel_rfl) (by kernel_rfl) (by kernel_rfl) (by kernel_rfl) h
  unfold Lib.TabIs World.var? at t
  rw [gCon] at t
  simp only [Option.bind_some] at t
  split at t
  · rename_i cs T fr hh
    injection t with t
    refine ⟨T, fr, ?_⟩
    rw [hh, t]
    simp [wv]
  · cases t
section
variable {H : Type} {enc : TypeId × Value → H} {W : World}
set_option maxRecDepth 20000 in
/-- A slice of strings that came in. -/
theorem open_rdStrs {base : Nat} {v : Value} {d : DataW H} {p : List MemPlace} (hval : Value.okWide Tryd.prog W .any base 41 v) (h : DataW.Trod enc Tryd.prog W 0 (fun _ => true) true 41 v d p) :
    ∃ A n c l, v = .slice A n c ∧ n ≤ c ∧ c ≤ maxLen ∧ l.length = n ∧ Rd W A n (sv l) ∧ ∀ s ∈ l, s.size ≤ maxLen := by
  obtain ⟨A, n, c, rfl⟩ := okWide_slice (e := 9) (by kernel_rfl) hval
  obtain ⟨fuel, hf⟩ := h
  rcases open_strings (e := 9) (by kernel_rfl) (by kernel_rfl) (by kernel_rfl) hf with ⟨hcs, _⟩ | ⟨x, l, c', zs, hcs, _, hl, hm, hz, _, hcell, hwz⟩
  · simp [Value.cells] at hcs
    obtain ⟨rfl, rfl, rfl⟩ := hcs
    exact ⟨none, 0, 0, [], rfl, Nat.le_refl _, by simp [maxLen], rfl, Rd.none_ _, by simp⟩
  · simp [Value.cells] at hcs
    obtain ⟨rfl, rfl, rfl⟩ := hcs
    have hzl : zs.length = c := by simpa using hz
    refine ⟨some x, n, c, zs.take n, rfl, hl, hm, by simp; omega, ⟨by simp; omega, fun k u hk => ⟨x, rfl, ?_⟩⟩, fun z hz => hwz z (List.mem_of_mem_take hz)⟩
    have hlt : k < n := by have := (List.getElem?_eq_some_iff.1 hk).1; simp at this; omega
    rw [hcell k (by omega), ← hk]
    simp [sv, hlt, show k < zs.length by omega, List.getElem?_take]
end
theorem wf_i64 {n : Int} (h : (Lit.int .i64 n).wf = true) : -9223372036854775808 ≤ n ∧ n ≤ 9223372036854775807 := by
  simp [Lit.wf, IntKind.min, IntKind.max, IntKind.bits, IntKind.signed] at h
  omega
/-- A world for the witness: the settled one, the tables holding what their initialisers lay. -/
def layRow (cs : Array Value) : Obj → Obj
  | .cells _ t frozen => .cells cs t frozen
  | o => o
noncomputable def laidWorld (os : Os) : World :=
  { World.holding Tryd.prog os ⟨#[], #[], []⟩ with heap := (World.holding Tryd.prog os ⟨#[], #[], []⟩).heap.modify 0 (layRow (K.map fun n => Value.int .u32 (n : Nat)).toArray) }
theorem gRef : Tryd.prog.globalNamed "antiquary/antiquaryref02.constants" = some 1 := by kernel_rfl
theorem gRefT : (Tryd.prog.globals[1]?).map (·.type) = some 104 := by kernel_rfl
theorem rcon_of {W : World} {rest : List (String × DataW Unit)} (h : laidMet Tryd.prog (("antiquary/antiquaryref02.constants", Rows.laid_antiquary_antiquaryref02_constants) :: rest) W) : RCon W := by
  have t : Lib.TabIs Tryd.prog W "antiquary/antiquaryref02.constants" .u32 (K.map fun n => ((n : Nat) : Int)) :=
    Lib.tabIs_of_head (rest := rest) gRef gRefT (n := 64) (e := 81) (by kernel_rfl) (by kernel_rfl) (by kernel_rfl) (by kernel_rfl) h
  intro k hk
  have hlen : K.length = 64 := by decide
  rw [t.cell gRef k (by simp [hlen, hk])]
  simp [hlen, hk]
noncomputable def laidWorldR (os : Os) : World :=
  { laidWorld os with heap := (laidWorld os).heap.modify 1 (layRow (K.map fun n => Value.int .u32 (n : Nat)).toArray) }
end Go.Proofs.YtfnpeclomcnpeaaDoor
