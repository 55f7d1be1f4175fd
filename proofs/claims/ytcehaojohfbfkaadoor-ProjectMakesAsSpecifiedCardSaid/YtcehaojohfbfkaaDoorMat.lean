/-
  Slices of slices of integers, and slices of pairs of integers, as an argument brings them. Conditions: none.
-/
import Derived.Test.YtcehaojohfbfkaaDoorLib
import Derived.Deep.Matrix
import Derived.Deep.SlicePairs
namespace Go.Proofs.YtcehaojohfbfkaaDoor
set_option linter.unusedSimpArgs false
set_option linter.unusedVariables false
open Go.ChangeShapes Go.WideShapes Go.RowKit
/-- A slice of slices of integers reads as a list of lists. -/
structure RdR (W : World) (A : Option Addr) (n : Nat) (ls : List (List Int)) : Prop where
  len : ls.length = n
  row : ∀ k (hk : k < ls.length), ∃ ad B c, A = some ad ∧ W.cell? (ad.add k) = some (.slice B ls[k].length c) ∧ ls[k].length ≤ c ∧ c ≤ maxLen ∧ Rd W B ls[k].length (iv ls[k])
/-- A slice of pairs of integers reads as a list of pairs. -/
structure RdP (W : World) (A : Option Addr) (n : Nat) (rs : List (Int × Int)) : Prop where
  len : rs.length = n
  cell : ∀ k (hk : k < rs.length), ∃ ad, A = some ad ∧ W.cell? (ad.add (k * 2)) = some (.int .i64 rs[k].1) ∧ W.cell? (ad.add (k * 2 + 1)) = some (.int .i64 rs[k].2)
theorem cell_below {W W' : World} (hb : Below W.heap.size W W') {p : Addr} {v : Value} (h : W.cell? p = some v) : W'.cell? p = some v :=
  (hb.cell (World.block_lt_of_cell? W _ h)).trans h
theorem RdR.below {W W' : World} {A : Option Addr} {n : Nat} {ls : List (List Int)} (h : RdR W A n ls) (hb : Below W.heap.size W W') : RdR W' A n ls :=
  ⟨h.len, fun k hk => by
    obtain ⟨ad, B, c, h1, h2, h3, h4, h5⟩ := h.row k hk
    exact ⟨ad, B, c, h1, cell_below hb h2, h3, h4, h5.below hb⟩⟩
theorem RdP.below {W W' : World} {A : Option Addr} {n : Nat} {rs : List (Int × Int)} (h : RdP W A n rs) (hb : Below W.heap.size W W') : RdP W' A n rs :=
  ⟨h.len, fun k hk => by
    obtain ⟨ad, h1, h2, h3⟩ := h.cell k hk
    exact ⟨ad, h1, cell_below hb h2, cell_below hb h3⟩⟩
section
variable {H : Type} {enc : TypeId × Value → H} {W : World}
theorem open_rdRows {base : Nat} {v : Value} {d : DataW H} {p : List MemPlace} (hval : Value.okWide Tryd.prog W .any base 22 v) (h : DataW.Trod enc Tryd.prog W 0 (fun _ => true) true 22 v d p) :
    ∃ A n c ls, v = .slice A n c ∧ n ≤ c ∧ c ≤ maxLen ∧ RdR W A n ls ∧ ∀ l ∈ ls, ∀ z ∈ l, (Lit.int .i64 z).wf = true := by
  obtain ⟨A, n, c, rfl⟩ := okWide_slice (e := 24) (by kernel_rfl) hval
  obtain ⟨fuel, hf⟩ := h
  rcases Go.Deep.open_int_rows (e := 24) (q := 3) (k := .i64) (by kernel_rfl) (by kernel_rfl) (by kernel_rfl) (by kernel_rfl) (by kernel_rfl) hf with ⟨hcs, _⟩ | ⟨x, l, c', R, L, C, Z, hcs, _, hl, hm, _, hrow⟩
  · simp [Value.cells] at hcs
    obtain ⟨rfl, rfl, rfl⟩ := hcs
    exact ⟨none, 0, 0, [], rfl, Nat.le_refl _, by simp [maxLen], ⟨rfl, fun k hk => by simp at hk⟩, by simp⟩
  · simp [Value.cells] at hcs
    obtain ⟨rfl, rfl, rfl⟩ := hcs
    have hlen : ∀ k, k < c → ((Z k).take (L k)).length = L k := fun k hk => by
      obtain ⟨_, h2, _, h4, _⟩ := hrow k hk
      simp; omega
    refine ⟨some x, n, c, (List.range n).map fun k => (Z k).take (L k), rfl, hl, hm, ⟨by simp, fun k hk => ?_⟩, fun l hl' z hz => ?_⟩
    · simp only [List.length_map, List.length_range] at hk
      obtain ⟨h1, h2, h3, h4, h5, h6, h7⟩ := hrow k (by omega)
      simp only [List.getElem_map, List.getElem_range, hlen k (by omega)]
      refine ⟨x, R k, C k, rfl, h1, h2, h3, ?_⟩
      refine ⟨by simp; omega, fun i u hi => ?_⟩
      have hlt : i < L k := by have := (List.getElem?_eq_some_iff.1 hi).1; simp at this; omega
      cases hR : R k with
      | none => have := h6 hR; omega
      | some a' =>
        refine ⟨a', rfl, ?_⟩
        rw [(h7 a' hR).2 i (by omega), ← hi]
        simp [iv, hlt, show i < (Z k).length by omega, List.getElem?_take]
    · simp only [List.mem_map, List.mem_range] at hl'
      obtain ⟨k, hk, rfl⟩ := hl'
      exact (hrow k (by omega)).2.2.2.2.1 z (List.mem_of_mem_take hz)
end
end Go.Proofs.YtcehaojohfbfkaaDoor
