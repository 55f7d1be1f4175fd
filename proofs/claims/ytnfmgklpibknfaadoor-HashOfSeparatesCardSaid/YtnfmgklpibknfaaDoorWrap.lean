/-
  From the row's reading of the arguments and tables to the walks' premises. Conditions: none.
-/
import Derived.Test.YtnfmgklpibknfaaDoorSan
import Derived.Test.YtnfmgklpibknfaaDoorCards
import Derived.Test.YtnfmgklpibknfaaDoorTie
import Derived.ProofKit
import Derived.OpenShut
import Derived.ShutString
import Derived.SliceStrings
import Derived.Carry
import Derived.Deep.DeepHandedRow
import Derived.Lib.LaidTab
import Derived.Stop.LaidErr
namespace Go.Proofs.YtnfmgklpibknfaaDoor
set_option linter.unusedSimpArgs false
set_option linter.unusedVariables false
open Go.ChangeShapes Go.WideShapes Go.ChangeAt Go.RowKit Sha Crc

theorem own : ownKnob Tryd.prog.godebug = none := by kernel_rfl
theorem laidOut : laidOutB Tryd.prog = true := by kernel_rfl
theorem gNib : Tryd.prog.globalNamed "antiquary/hash.nibbles" = some 1 := by kernel_rfl
theorem gNibT : (Tryd.prog.globals[1]?).map (·.type) = some 79 := by kernel_rfl
theorem gCon : Tryd.prog.globalNamed "antiquary/hash.constants" = some 2 := by kernel_rfl
theorem gConT : (Tryd.prog.globals[2]?).map (·.type) = some 73 := by kernel_rfl
/-- The table of nibbles, from the row's list. -/
theorem nib_of {W : World} {rest : List (String × DataW Unit)} (h : laidMet Tryd.prog (("antiquary/hash.nibbles", Rows.laid_antiquary_hash_nibbles) :: rest) W) : GNib W := by
  have t : Lib.TabIs Tryd.prog W "antiquary/hash.nibbles" .u64 [0, 75628553, 151257106, 226885659, 302514212, 378142765, 453771318, 529399871, 605028424, 546439233, 756285530, 697696339, 907542636, 848953445, 1058799742, 1000210551] :=
    Lib.tabIs_of_head (rest := rest) gNib gNibT (n := 16) (e := 28) (by kernel_rfl) (by kernel_rfl) (by kernel_rfl) (by kernel_rfl) h
  intro k hk
  rw [t.cell gNib k (by simpa using hk)]
  rcases k with _|_|_|_|_|_|_|_|_|_|_|_|_|_|_|_|k <;> first | rfl | omega
theorem con_of {W : World} {rest : List (String × DataW Unit)} (h : laidMet Tryd.prog (("antiquary/hash.constants", Rows.laid_antiquary_hash_constants) :: rest) W) : GCon W := by
  have t : Lib.TabIs Tryd.prog W "antiquary/hash.constants" .u32 (K.map fun n => ((n : Nat) : Int)) :=
    Lib.tabIs_of_head (rest := rest) gCon gConT (n := 64) (e := 49) (by kernel_rfl) (by kernel_rfl) (by kernel_rfl) (by kernel_rfl) h
  unfold Lib.TabIs World.var? at t
  rw [gCon] at t
  simp only [Option.bind_some] at t
  split at t
  · rename_i cs T fr hh
    injection t with t
    refine ⟨T, fr, ?_⟩
    rw [hh, t]
    simp [wv]
  · cases t
section
variable {H : Type} {enc : TypeId × Value → H} {W : World}
/-- A slice of bytes that came in. -/
theorem open_rdBytes {base : Nat} {v : Value} {d : DataW H} {p : List MemPlace} (hval : Value.okWide Tryd.prog W .any base 22 v) (h : DataW.Trod enc Tryd.prog W 0 (fun _ => true) true 22 v d p) :
    ∃ A n c l, v = .slice A n c ∧ n ≤ c ∧ c ≤ maxLen ∧ l.length = n ∧ Rd W A n (bv l) := by
  obtain ⟨A, n, c, rfl⟩ := okWide_slice (e := 5) (by kernel_rfl) hval
  obtain ⟨fuel, hf⟩ := h
  rcases open_ints (e := 5) (k := .u8) (by kernel_rfl) (by kernel_rfl) (by kernel_rfl) hf with ⟨hcs, _⟩ | ⟨x, l, c', zs, hcs, _, hl, hm, hz, _, hcell, hwz⟩
  · simp [Value.cells] at hcs
    obtain ⟨rfl, rfl, rfl⟩ := hcs
    exact ⟨none, 0, 0, [], rfl, Nat.le_refl _, by simp [maxLen], rfl, Rd.none_ _⟩
  · simp [Value.cells] at hcs
    obtain ⟨rfl, rfl, rfl⟩ := hcs
    have hzl : zs.length = c := by simpa using hz
    have hb : ∀ z ∈ zs, 0 ≤ z ∧ z < 256 := fun z h => by
      have := hwz z h
      simp [Lit.wf, IntKind.min, IntKind.max, IntKind.bits, IntKind.signed] at this
      omega
    refine ⟨some x, n, c, (zs.take n).map fun z => UInt8.ofNat z.toNat, rfl, hl, hm, by simp; omega, by simp; omega, fun k u hk => ⟨x, rfl, ?_⟩⟩
    have hlt : k < n := by have := (List.getElem?_eq_some_iff.1 hk).1; simp at this; omega
    rw [hcell k (by omega), ← hk]
    have hkz : k < zs.length := by omega
    have h1 := hb zs[k] (List.getElem_mem _)
    simp [bv, hlt, hkz, List.getElem?_take, UInt8.toNat_ofNat']
    omega
/-- A slice of ints that came in. -/
theorem open_rdInts {base : Nat} {v : Value} {d : DataW H} {p : List MemPlace} (hval : Value.okWide Tryd.prog W .any base 36 v) (h : DataW.Trod enc Tryd.prog W 0 (fun _ => true) true 36 v d p) :
    ∃ A n c l, v = .slice A n c ∧ n ≤ c ∧ c ≤ maxLen ∧ l.length = n ∧ Rd W A n (iv l) ∧ ∀ z ∈ l, (Lit.int .i64 z).wf = true := by
  obtain ⟨A, n, c, rfl⟩ := okWide_slice (e := 3) (by kernel_rfl) hval
  obtain ⟨fuel, hf⟩ := h
  rcases open_ints (e := 3) (k := .i64) (by kernel_rfl) (by kernel_rfl) (by kernel_rfl) hf with ⟨hcs, _⟩ | ⟨x, l, c', zs, hcs, _, hl, hm, hz, _, hcell, hwz⟩
  · simp [Value.cells] at hcs
    obtain ⟨rfl, rfl, rfl⟩ := hcs
    exact ⟨none, 0, 0, [], rfl, Nat.le_refl _, by simp [maxLen], rfl, Rd.none_ _, by simp⟩
  · simp [Value.cells] at hcs
    obtain ⟨rfl, rfl, rfl⟩ := hcs
    have hzl : zs.length = c := by simpa using hz
    refine ⟨some x, n, c, zs.take n, rfl, hl, hm, by simp; omega, ⟨by simp; omega, fun k u hk => ⟨x, rfl, ?_⟩⟩, fun z hz => hwz z (List.mem_of_mem_take hz)⟩
    have hlt : k < n := by have := (List.getElem?_eq_some_iff.1 hk).1; simp at this; omega
    rw [hcell k (by omega), ← hk]
    simp [iv, hlt, show k < zs.length by omega, List.getElem?_take]
/-- A slice of strings that came in. -/
theorem open_rdStrs {base : Nat} {v : Value} {d : DataW H} {p : List MemPlace} (hval : Value.okWide Tryd.prog W .any base 26 v) (h : DataW.Trod enc Tryd.prog W 0 (fun _ => true) true 26 v d p) :
    ∃ A n c l, v = .slice A n c ∧ n ≤ c ∧ c ≤ maxLen ∧ l.length = n ∧ Rd W A n (sv l) ∧ ∀ s ∈ l, s.size ≤ maxLen := by
  obtain ⟨A, n, c, rfl⟩ := okWide_slice (e := 9) (by kernel_rfl) hval
  obtain ⟨fuel, hf⟩ := h
  rcases open_strings (e := 9) (by kernel_rfl) (by kernel_rfl) (by kernel_rfl) hf with ⟨hcs, _⟩ | ⟨x, l, c', zs, hcs, _, hl, hm, hz, _, hcell, hwz⟩
  · simp [Value.cells] at hcs
    obtain ⟨rfl, rfl, rfl⟩ := hcs
    exact ⟨none, 0, 0, [], rfl, Nat.le_refl _, by simp [maxLen], rfl, Rd.none_ _, by simp⟩
  · simp [Value.cells] at hcs
    obtain ⟨rfl, rfl, rfl⟩ := hcs
    have hzl : zs.length = c := by simpa using hz
    refine ⟨some x, n, c, zs.take n, rfl, hl, hm, by simp; omega, ⟨by simp; omega, fun k u hk => ⟨x, rfl, ?_⟩⟩, fun z hz => hwz z (List.mem_of_mem_take hz)⟩
    have hlt : k < n := by have := (List.getElem?_eq_some_iff.1 hk).1; simp at this; omega
    rw [hcell k (by omega), ← hk]
    simp [sv, hlt, show k < zs.length by omega, List.getElem?_take]
end
theorem wf_i64 {n : Int} (h : (Lit.int .i64 n).wf = true) : -9223372036854775808 ≤ n ∧ n ≤ 9223372036854775807 := by
  simp [Lit.wf, IntKind.min, IntKind.max, IntKind.bits, IntKind.signed] at h
  omega
/-- A world for the witness: the settled one, the tables holding what their initialisers lay. -/
def layRow (cs : Array Value) : Obj → Obj
  | .cells _ t frozen => .cells cs t frozen
  | o => o
noncomputable def laidWorld (os : Os) : World :=
  { World.holding Tryd.prog os ⟨#[], #[], []⟩ with heap := ((World.holding Tryd.prog os ⟨#[], #[], []⟩).heap.modify 1 (layRow (tab.map fun n => Value.int .u64 (n : Nat)).toArray)).modify 2 (layRow (K.map fun n => Value.int .u32 (n : Nat)).toArray) }
end Go.Proofs.YtnfmgklpibknfaaDoor
