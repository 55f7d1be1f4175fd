/-
  A slice of the laws' acts as an argument. Conditions: none.
-/
import Derived.Test.YtecklplohgfohaaFm
namespace Go.Proofs.Ytecklplohgfohaa
set_option linter.unusedSimpArgs false
set_option linter.unusedVariables false
open Go.ChangeShapes Go.WideShapes Go.ChangeAt Go.RowKit Link
abbrev acV (a : Nat × Nat) : List Value := [.int .u8 (a.1 : Nat), .int .u8 (a.2 : Nat)]
theorem acV_len (a : Nat × Nat) : (acV a).length = 2 := rfl
def acs (l : List (Nat × Nat)) : List Value := l.flatMap acV
theorem length_acs (l : List (Nat × Nat)) : (acs l).length = l.length * 2 := length_fl acV_len l
structure RdA (W : World) (A : Option Addr) (n : Nat) (l : List (Nat × Nat)) : Prop where
  len : l.length = n
  rd : Rd W A (n * 2) (acs l)
theorem RdA.below {W W' : World} {A : Option Addr} {n : Nat} {l : List (Nat × Nat)} (h : RdA W A n l) (hb : Below W.heap.size W W') : RdA W' A n l := ⟨h.len, h.rd.below hb⟩
theorem RdA.elem {W : World} {A : Option Addr} {n : Nat} {l : List (Nat × Nat)} (h : RdA W A n l) {i : Nat} (hi : i < l.length) : ∃ ad, A = some ad ∧ ∀ j u, (acV l[i])[j]? = some u → W.cell? ((ad.add (i * 2)).add j) = some u :=
  Rd.elem acV_len (by omega) h.rd hi
section
variable {H : Type} {enc : TypeId × Value → H} {W : World}
theorem u8_wf {z : Int} (h : (Lit.int .u8 z).wf = true) : ∃ k : Nat, z = k ∧ k < 256 := by
  have h2 : (decide (IntKind.u8.min ≤ z) && decide (z ≤ IntKind.u8.max)) = true := h
  have h3 : IntKind.u8.min = 0 := rfl
  have h4 : IntKind.u8.max = 255 := rfl
  rw [h3, h4] at h2
  simp only [Bool.and_eq_true, decide_eq_true_eq] at h2
  exact ⟨z.toNat, by omega, by omega⟩
set_option maxRecDepth 20000 in
theorem open_acCells {base : Nat} {fuel : Nat} {cs : List Value} {x : DataW H × List MemPlace} (h : DataW.trod enc Try.prog W base (fun _ => true) true fuel 65 cs = some x) : ∃ k : Nat × Nat, cs = acV k ∧ k.1 < 256 ∧ k.2 < 256 := by
  obtain ⟨f0, f1, hs, ⟨o0, o1⟩, t0, t1⟩ := two_fields (show (Try.prog.underlying 65).map partsT = some [(0, 5), (1, 5)] by kernel_rfl)
  have cI : Try.prog.cellsOf 5 = 1 := by kernel_rfl
  have cK : Try.prog.cellsOf 65 = 2 := by kernel_rfl
  have uI : Try.prog.underlying 5 = some (.int .u8) := by kernel_rfl
  obtain ⟨xs, n, _, _, hcl, hxl, hf⟩ := DataW.trod_struct hs h
  rw [cK] at hcl
  match xs, hxl, cs, hcl with
  | [y0, y1], _, [v0, v1], _ =>
    have g0 := hf 0 f0 rfl
    have g1 := hf 1 f1 rfl
    simp [o0, o1, t0, t1, cI] at g0 g1
    obtain ⟨z0, e0, _, w0⟩ := DataW.trod_int uI g0
    obtain ⟨z1, e1, _, w1⟩ := DataW.trod_int uI g1
    simp at e0 e1
    obtain ⟨k0, rfl, h0⟩ := u8_wf w0
    obtain ⟨k1, rfl, h1⟩ := u8_wf w1
    subst e0 e1
    exact ⟨(k0, k1), rfl, h0, h1⟩
set_option maxRecDepth 20000 in
theorem open_acts {base : Nat} {v : Value} {d : DataW H} {p : List MemPlace} (hval : Value.okWide Try.prog W .any base 59 v) (h : DataW.Trod enc Try.prog W 0 (fun _ => true) true 59 v d p) :
    ∃ A n c l, v = .slice A n c ∧ (n ≤ c ∧ c ≤ maxLen) ∧ RdA W A n l ∧ ∀ a ∈ l, a.1 < 256 ∧ a.2 < 256 := by
  have cK : Try.prog.cellsOf 65 = 2 := by kernel_rfl
  obtain ⟨A0, n0, c0, rfl⟩ := okWide_slice (e := 65) (by kernel_rfl) hval
  obtain ⟨fuel, h⟩ := h
  simp only [Value.cells] at h
  rcases Go.Deep.open_slice (e := 65) (by kernel_rfl) h with ⟨hcs, _⟩ | ⟨x, n, c, m, q, D, Pl, hcs, _, hl, hm, hmm, _, hrow⟩
  · simp at hcs
    obtain ⟨rfl, rfl, rfl⟩ := hcs
    exact ⟨none, 0, 0, [], rfl, ⟨Nat.le_refl _, by simp [maxLen]⟩, ⟨rfl, Rd.none_ _⟩, by simp⟩
  · simp at hcs
    obtain ⟨rfl, rfl, rfl⟩ := hcs
    simp only [if_true] at hmm
    have each : ∀ i, i < n0 → ∃ k : Nat × Nat, (∀ j u, (acV k)[j]? = some u → W.cell? ((x.add (i * 2)).add j) = some u) ∧ k.1 < 256 ∧ k.2 < 256 := fun i hi => by
      obtain ⟨cs', h1, h2⟩ := hrow i (by omega)
      obtain ⟨k, rfl, hw⟩ := open_acCells h2
      refine ⟨k, fun j u hj => ?_, hw⟩
      rw [cK] at h1
      obtain ⟨_, hlen, hcell⟩ := World.cells?_some h1
      rw [hcell j (by have := (List.getElem?_eq_some_iff.1 hj).1; simpa using this), hj]
    obtain ⟨K, hK⟩ := Go.Deep.choose_lt each
    refine ⟨some x, n0, c0, (List.range n0).map K, rfl, ⟨hl, hm⟩, ⟨by simp, by rw [length_acs]; simp, fun k u hk => ⟨x, rfl, ?_⟩⟩, fun r hr => ?_⟩
    · have hlt := (List.getElem?_eq_some_iff.1 hk).1
      rw [length_acs] at hlt
      simp only [List.length_map, List.length_range] at hlt
      have e : k = k / 2 * 2 + k % 2 := by omega
      have hg := fl_get acV_len ((List.range n0).map K) (k / 2) (by simp; omega) (k % 2) (by omega)
      rw [← e] at hg
      unfold acs at hk
      rw [hg] at hk
      simp only [List.getElem_map, List.getElem_range] at hk
      have := (hK (k / 2) (by omega)).1 (k % 2) u hk
      rw [add_of_add, ← e] at this
      exact this
    · simp only [List.mem_map, List.mem_range] at hr
      obtain ⟨k, hk, rfl⟩ := hr
      exact (hK k hk).2
end
end Go.Proofs.Ytecklplohgfohaa
