/-
  Lines from a seed, plainly; what a half of a line's digits is, in the program's calls. Conditions: 64 bits.
-/
import Derived.Test.YtcehaojohfbfkaaDoorWi
import Derived.Test.YtcehaojohfbfkaaDoorRow
import Derived.Test.YtcehaojohfbfkaaDoorVa
namespace Go.Proofs.YtcehaojohfbfkaaDoor
set_option linter.unusedSimpArgs false
set_option linter.unusedVariables false
open Go.RowKit Proj Sha
def halfL (seed k part : Int) : List UInt8 := dig16 (inputL 7 [⟨(encInts [seed, k, part]).toArray⟩])
theorem length_halfL (seed k part : Int) : (halfL seed k part).length = 16 := length_dig16 _
def digL (seed k : Int) : List UInt8 := halfL seed k 0 ++ halfL seed k 1
theorem length_digL (seed k : Int) : (digL seed k).length = 32 := by simp [digL, length_halfL]
def digit (b : UInt8) : Int := (b.toNat : Int) % 3 - 1
def rawL (seed k : Int) (d : Nat) : List Int := ((digL seed k).take d).map digit
def fixL (l : List Int) : List Int := if someB l then l else l.set 0 1
def lineL (seed k : Int) (d : Nat) : List Int := fixL (rawL seed k d)
def linesL (seed : Int) (n d : Nat) : List (List Int) := (List.range n).map fun (k : Nat) => lineL seed (k : Int) d
theorem length_rawL (seed k : Int) (d : Nat) (h : d ≤ 32) : (rawL seed k d).length = d := by simp [rawL, length_digL]; omega
theorem length_lineL (seed k : Int) (d : Nat) (h : d ≤ 32) : (lineL seed k d).length = d := by
  unfold lineL fixL
  split
  · exact length_rawL seed k d h
  · rw [List.length_set]; exact length_rawL seed k d h
theorem digit_small (b : UInt8) : -1 ≤ digit b ∧ digit b ≤ 1 := by unfold digit; omega
theorem lineL_small (seed k : Int) (d : Nat) : ∀ x ∈ lineL seed k d, -1 ≤ x ∧ x ≤ 1 := by
  have h : ∀ x ∈ rawL seed k d, -1 ≤ x ∧ x ≤ 1 := by
    intro x hx
    simp only [rawL, List.mem_map] at hx
    obtain ⟨b, _, rfl⟩ := hx
    exact digit_small b
  unfold lineL fixL
  split
  · exact h
  · intro x hx
    rcases List.mem_or_eq_of_mem_set hx with hx | rfl
    · exact h x hx
    · omega
theorem someB_lineL (seed k : Int) (d : Nat) (h0 : 0 < d) (h : d ≤ 32) : someB (lineL seed k d) = true := by
  unfold lineL fixL
  by_cases hs : someB (rawL seed k d) = true
  · rw [if_pos hs]; exact hs
  · rw [if_neg hs]
    have hl := length_rawL seed k d h
    cases hr : rawL seed k d with
    | nil => rw [hr] at hl; simp at hl; omega
    | cons x l => simp [someB]
/-- The lines are lines. -/
theorem linesB_linesL (seed : Int) (n d : Nat) (hn : 1 ≤ n) (hn8 : n ≤ 8) (hd : 1 ≤ d) (hd32 : d ≤ 32) : linesB (linesL seed n d) d = true := by
  unfold linesB
  rw [decide_eq_true_iff]
  refine ⟨by omega, by omega, by simp [linesL]; omega, by simp [linesL]; omega, fun l hl => ?_⟩
  simp only [linesL, List.mem_map, List.mem_range] at hl
  obtain ⟨k, _, rfl⟩ := hl
  unfold steepB
  rw [decide_eq_true_iff]
  refine ⟨fun x hx => ?_, someB_lineL seed k d (by omega) hd32, by rw [length_lineL seed k d hd32]⟩
  have := lineL_small seed k d x hx
  unfold slope; omega
theorem n3_zero_iff : ∀ l : List Int, n3 l = 0 ↔ someB l = false
  | [] => by simp [n3, someB]
  | x :: l => by
    have ih := n3_zero_iff l
    have h1 := n3_nonneg l
    have h2 := ab_nonneg x
    have h3 : ab x = 0 ↔ x = 0 := by unfold ab; omega
    simp only [n3, someB, List.any_cons, Bool.or_eq_false_iff] at ih ⊢
    rw [show (l.any fun x => x != 0) = false ↔ n3 l = 0 from ih.symm]
    simp only [bne_eq_false_iff_eq]
    omega
theorem linesL_succ (seed : Int) (n d : Nat) : linesL seed (n + 1) d = linesL seed n d ++ [lineL seed n d] := by simp [linesL, List.range_succ]
theorem length_linesL (seed : Int) (n d : Nat) : (linesL seed n d).length = n := by simp [linesL]
theorem encInts3_small (a b c : Int) : (encInts [a, b, c]).length ≤ 40 := by
  have := length_flatI [a, b, c]
  have := length_encI ([a, b, c] : List Int).length
  simp only [encInts, List.length_append, List.length_cons, List.length_nil] at *
  omega
end Go.Proofs.YtcehaojohfbfkaaDoor
