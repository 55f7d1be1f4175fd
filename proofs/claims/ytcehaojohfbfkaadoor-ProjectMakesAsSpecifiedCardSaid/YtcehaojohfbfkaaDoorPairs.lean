/-
  A slice of pairs of integers, as an argument brings it. Conditions: none.
-/
import Derived.Test.YtcehaojohfbfkaaDoorMat
namespace Go.Proofs.YtcehaojohfbfkaaDoor
set_option linter.unusedSimpArgs false
set_option linter.unusedVariables false
open Go.ChangeShapes Go.WideShapes Go.RowKit
def numOf : Value → Int
  | .int _ z => z
  | _ => 0
def parts2 : TypeDesc → List (Nat × TypeId)
  | .struct fs => fs.toList.map fun f => (f.offset, f.type)
  | _ => []
theorem two_fields {d : Option TypeDesc} {a b : TypeId} (h : d.map parts2 = some [(0, a), (1, b)]) : ∃ f0 f1 : Field, d = some (.struct #[f0, f1]) ∧ f0.offset = 0 ∧ f1.offset = 1 ∧ f0.type = a ∧ f1.type = b := by
  cases d with
  | none => simp at h
  | some d =>
    simp only [Option.map_some, Option.some.injEq] at h
    cases d <;> simp only [parts2] at h <;> try (simp at h; done)
    rename_i fs
    obtain ⟨l⟩ := fs
    rcases l with _ | ⟨f0, _ | ⟨f1, _ | ⟨f2, l⟩⟩⟩ <;> simp at h
    exact ⟨f0, f1, rfl, h.1.1, h.2.1, h.1.2, h.2.2⟩
section
variable {H : Type} {enc : TypeId × Value → H} {W : World}
theorem open_rdPairs {base : Nat} {v : Value} {d : DataW H} {p : List MemPlace} (hval : Value.okWide Tryd.prog W .any base 29 v) (h : DataW.Trod enc Tryd.prog W 0 (fun _ => true) true 29 v d p) :
    ∃ A n c rs, v = .slice A n c ∧ n ≤ c ∧ c ≤ maxLen ∧ RdP W A n rs ∧ ∀ r ∈ rs, (Lit.int .i64 r.1).wf = true ∧ (Lit.int .i64 r.2).wf = true := by
  obtain ⟨A, n, c, rfl⟩ := okWide_slice (e := 45) (by kernel_rfl) hval
  obtain ⟨f0, f1, hs, o0, o1, t0, t1⟩ := two_fields (show (Tryd.prog.underlying 45).map parts2 = some [(0, 3), (1, 3)] by kernel_rfl)
  obtain ⟨fuel, hf⟩ := h
  rcases Go.Deep.open_slice_pairs (e := 45) (f0 := f0) (f1 := f1) (by kernel_rfl) hs (by kernel_rfl) o0 o1 (by rw [t0]; kernel_rfl) (by rw [t1]; kernel_rfl) hf with ⟨hcs, _⟩ | ⟨x, l, c', m, q, V0, V1, D0, D1, P0, P1, hcs, _, hl, hm, hmm, _, hrow⟩
  · simp [Value.cells] at hcs
    obtain ⟨rfl, rfl, rfl⟩ := hcs
    exact ⟨none, 0, 0, [], rfl, Nat.le_refl _, by simp [maxLen], ⟨rfl, fun k hk => by simp at hk⟩, by simp⟩
  · simp [Value.cells] at hcs
    obtain ⟨rfl, rfl, rfl⟩ := hcs
    simp only [if_true] at hmm
    have each : ∀ i, i < c → V0 i = .int .i64 (numOf (V0 i)) ∧ V1 i = .int .i64 (numOf (V1 i)) ∧ (Lit.int .i64 (numOf (V0 i))).wf = true ∧ (Lit.int .i64 (numOf (V1 i))).wf = true := fun i hi => by
      obtain ⟨_, _, h3, h4⟩ := hrow i (by omega)
      rw [t0] at h3
      rw [t1] at h4
      obtain ⟨a, ea, _, wa⟩ := DataW.trod_int (k := .i64) (by kernel_rfl) h3
      obtain ⟨b, eb, _, wb⟩ := DataW.trod_int (k := .i64) (by kernel_rfl) h4
      simp at ea eb
      rw [ea, eb]
      exact ⟨rfl, rfl, wa, wb⟩
    refine ⟨some x, n, c, (List.range n).map fun i => (numOf (V0 i), numOf (V1 i)), rfl, hl, hm, ⟨by simp, fun k hk => ?_⟩, fun r hr => ?_⟩
    · simp only [List.length_map, List.length_range] at hk
      obtain ⟨h1, h2, _, _⟩ := hrow k (by omega)
      obtain ⟨e1, e2, _, _⟩ := each k (by omega)
      simp only [List.getElem_map, List.getElem_range]
      exact ⟨x, rfl, by rw [h1, ← e1], by rw [h2, ← e2]⟩
    · simp only [List.mem_map, List.mem_range] at hr
      obtain ⟨k, hk, rfl⟩ := hr
      obtain ⟨_, _, w1, w2⟩ := each k (by omega)
      exact ⟨w1, w2⟩
end
end Go.Proofs.YtcehaojohfbfkaaDoor
