/-
  From the row's reading of an argument to the walks' premise: parts of a struct, slices of elements of k cells; tokens, texts, numbers. Conditions: none.
-/
import Derived.Test.YtiajmdmofjfdcaaGreatDoorRd8
import Derived.ProofKit
import Derived.OpenShut
import Derived.ShutString
import Derived.SliceStrings
import Derived.Deep.Slices
import Derived.ChangeSame
namespace Go.Proofs.YtiajmdmofjfdcaaGreatDoor
set_option linter.unusedSimpArgs false
set_option linter.unusedVariables false
set_option maxRecDepth 20000
open Go.ChangeShapes Go.WideShapes Go.ChangeAt Go.RowKit Lexr
def partsT : TypeDesc → List (Nat × TypeId)
  | .struct fs => fs.toList.map fun f => (f.offset, f.type)
  | _ => []
theorem fields_of {d : Option TypeDesc} {l : List (Nat × TypeId)} (h : d.map partsT = some l) (hl : l ≠ []) : ∃ fs : Array Field, d = some (.struct fs) ∧ fs.toList.map (fun f => (f.offset, f.type)) = l := by
  cases d with
  | none => simp at h
  | some d =>
    simp only [Option.map_some, Option.some.injEq] at h
    cases d <;> simp only [partsT] at h <;> try (exact absurd h.symm hl)
    rename_i fs
    exact ⟨fs, rfl, h⟩
section
variable {H : Type} {enc : TypeId × Value → H} {W : World} {P : Program}
theorem struct_at {base fuel : Nat} {t : TypeId} {L : List (Nat × TypeId)} {cs : List Value} {x : DataW H × List MemPlace} (hu : (P.underlying t).map partsT = some L) (hL : L ≠ []) (h : DataW.trod enc P W base (fun _ => true) true fuel t cs = some x) :
    cs.length = P.cellsOf t ∧ ∀ (i o : Nat) (ty : TypeId), L[i]? = some (o, ty) → ∃ n y, DataW.trod enc P W base (fun _ => true) true n ty ((cs.drop o).take (P.cellsOf ty)) = some y := by
  obtain ⟨fs, hs, hf⟩ := fields_of hu hL
  obtain ⟨xs, n, _, _, hcl, hxl, hx⟩ := DataW.trod_struct hs h
  refine ⟨hcl, fun i o ty hi => ?_⟩
  rw [← hf, List.getElem?_map, Option.map_eq_some_iff] at hi
  obtain ⟨f, h1, h2⟩ := hi
  injection h2 with e1 e2
  subst e1; subst e2
  have h3 : fs[i]? = some f := by rw [← h1]; simp
  have h4 := hx i f h3
  rw [List.getElem?_eq_getElem (by rw [hxl]; exact (Array.getElem?_eq_some_iff.1 h3).1)] at h4
  exact ⟨n, _, h4⟩
/-- A slice of elements of k cells. -/
theorem open_rowCells {α : Type} [Inhabited α] {base fuel k : Nat} {t e : TypeId} (ht : P.underlying t = some (.slice e)) (hc : P.cellsOf e = k) (hk : 0 < k) (f : α → List Value) (hf : ∀ x, (f x).length = k) (Wf : α → Prop)
    (hel : ∀ base fuel cs x, DataW.trod enc P W base (fun _ => true) true fuel e cs = some x → ∃ a, cs = f a ∧ Wf a) {cs : List Value} {x : DataW H × List MemPlace} (h : DataW.trod enc P W base (fun _ => true) true fuel t cs = some x) :
    ∃ A n c, ∃ l : List α, cs = [.slice A n c] ∧ n ≤ c ∧ c ≤ maxLen ∧ l.length = n ∧ Rd W A (n * k) (l.flatMap f) ∧ ∀ a ∈ l, Wf a := by
  rcases Go.Deep.open_slice ht h with ⟨hcs, _⟩ | ⟨x, n, c, m, q, D, Pl, hcs, _, hl, hm, hmm, _, hrow⟩
  · exact ⟨none, 0, 0, [], hcs, Nat.le_refl _, by simp [maxLen], rfl, by rw [Nat.zero_mul]; exact Rd.none_ _, by simp⟩
  · simp only [if_true] at hmm
    have each : ∀ i, i < n → ∃ a : α, (∀ j u, (f a)[j]? = some u → W.cell? ((x.add (i * k)).add j) = some u) ∧ Wf a := fun i hi => by
      obtain ⟨cs', h1, h2⟩ := hrow i (by omega)
      obtain ⟨a, rfl, hw⟩ := hel _ _ _ _ h2
      refine ⟨a, fun j u hj => ?_, hw⟩
      rw [hc] at h1
      obtain ⟨_, hlen, hcell⟩ := World.cells?_some h1
      rw [hcell j (by have := (List.getElem?_eq_some_iff.1 hj).1; rw [hf] at this; exact this), hj]
    obtain ⟨K, hK⟩ := Go.Deep.choose_lt each
    refine ⟨some x, n, c, (List.range n).map K, hcs, hl, hm, by simp, ⟨by rw [length_fl hf]; simp, fun j u hj => ⟨x, rfl, ?_⟩⟩, fun r hr => ?_⟩
    · have hlt := (List.getElem?_eq_some_iff.1 hj).1
      rw [length_fl hf] at hlt
      simp only [List.length_map, List.length_range] at hlt
      have hdk : j / k < n := Nat.div_lt_of_lt_mul (by rw [Nat.mul_comm]; exact hlt)
      have e : j = j / k * k + j % k := by rw [Nat.mul_comm]; exact (Nat.div_add_mod j k).symm
      have hg := fl_get hf ((List.range n).map K) (j / k) (by simp; exact hdk) (j % k) (Nat.mod_lt _ hk)
      rw [← e] at hg
      rw [hg] at hj
      simp only [List.getElem_map, List.getElem_range] at hj
      have := (hK (j / k) hdk).1 (j % k) u hj
      rw [add_of_add, ← e] at this
      exact this
    · simp only [List.mem_map, List.mem_range] at hr
      obtain ⟨i, hi, rfl⟩ := hr
      exact (hK i hi).2
theorem cut_at (cs : List Value) (o n : Nat) : cs.drop o = (cs.drop o).take n ++ cs.drop (o + n) := by
  rw [← List.drop_drop]; exact (List.take_append_drop n (cs.drop o)).symm
theorem okWide_structQ {P : Program} {base : Nat} {t : TypeId} {fs : Array Field} {v : Value} (hs : P.underlying t = some (.struct fs)) (hval : Value.okWide P W .any base t v) : ∃ cs, v = .agg cs := by
  simp only [Value.okWide, hs] at hval
  obtain ⟨cs, rfl, _⟩ := hval
  exact ⟨cs, rfl⟩
theorem wf_int {n : Int} (h : (Lit.int .i64 n).wf = true) : -9223372036854775808 ≤ n ∧ n ≤ 9223372036854775807 := by
  simp [Lit.wf, IntKind.min, IntKind.max, IntKind.bits, IntKind.signed] at h
  omega
theorem uInt : Tryz.prog.underlying 3 = some (.int .i64) := by kernel_rfl
theorem uStr : Tryz.prog.underlying 9 = some .string := by kernel_rfl
theorem cInt : Tryz.prog.cellsOf 3 = 1 := by kernel_rfl
theorem cStr : Tryz.prog.cellsOf 9 = 1 := by kernel_rfl
theorem oInt {base fuel : Nat} {cs : List Value} {x : DataW H × List MemPlace} (h : DataW.trod enc Tryz.prog W base (fun _ => true) true fuel 3 cs = some x) : ∃ z : Int, cs = [.int .i64 z] ∧ -9223372036854775808 ≤ z ∧ z ≤ 9223372036854775807 := by
  obtain ⟨z, e, _, w⟩ := DataW.trod_int uInt h
  exact ⟨z, e, wf_int w⟩
theorem oStr {base fuel : Nat} {cs : List Value} {x : DataW H × List MemPlace} (h : DataW.trod enc Tryz.prog W base (fun _ => true) true fuel 9 cs = some x) : ∃ s : ByteArray, cs = [.string s] ∧ s.size ≤ maxLen := by
  obtain ⟨s, e, _, w⟩ := DataW.trod_string uStr h
  exact ⟨s, e, w⟩
theorem slice_of {base : Nat} {t t2 : TypeId} {v : Value} {A : Option Addr} {n c : Nat} (hs : Tryz.prog.underlying t = some (.slice t2)) (hval : Value.okWide Tryz.prog W .any base t v) (e : v.cells.toList = [.slice A n c]) : v = .slice A n c := by
  obtain ⟨A0, n0, c0, rfl⟩ : ∃ A n c, v = .slice A n c := by
    cases v <;> simp only [Value.okWide, hs, Cell.okWide, Cell.ok] at hval <;> first | exact ⟨_, _, _, rfl⟩ | (simp [Value.cells] at e) | exact hval.elim
  simp only [Value.cells] at e
  injection e with e _
instance : Inhabited Tok := ⟨⟨0, 0, []⟩⟩
def WfTok (t : Tok) : Prop := (-9223372036854775808 ≤ t.kind ∧ t.kind ≤ 9223372036854775807) ∧ -9223372036854775808 ≤ t.at_ ∧ t.at_ ≤ 9223372036854775807
theorem open_tokCells {base fuel : Nat} {cs : List Value} {x : DataW H × List MemPlace} (h : DataW.trod enc Tryz.prog W base (fun _ => true) true fuel 44 cs = some x) : ∃ a : Tok, cs = tokL a ∧ WfTok a := by
  obtain ⟨hl, hf⟩ := struct_at (L := [(0, 3), (1, 3), (2, 9)]) (by kernel_rfl) (by simp) h
  rw [show Tryz.prog.cellsOf 44 = 3 by kernel_rfl] at hl
  obtain ⟨m0, y0, g0⟩ := hf 0 0 _ rfl
  rw [cInt] at g0
  obtain ⟨z0, e0, w0⟩ := oInt g0
  obtain ⟨m1, y1, g1⟩ := hf 1 1 _ rfl
  rw [cInt] at g1
  obtain ⟨z1, e1, w1⟩ := oInt g1
  obtain ⟨m2, y2, g2⟩ := hf 2 2 _ rfl
  rw [cStr] at g2
  obtain ⟨z2, e2, w2⟩ := oStr g2
  have t3 : cs.drop 3 = [] := List.drop_of_length_le (by omega)
  have t2 := cut_at cs 2 1
  rw [e2, t3] at t2
  have t1 := cut_at cs 1 1
  rw [e1, t2] at t1
  have t0 := cut_at cs 0 1
  rw [e0, t1] at t0
  rw [List.drop_zero] at t0
  refine ⟨⟨z0, z1, z2.data.toList⟩, ?_, w0, w1⟩
  rw [t0]
  show [_, _, Value.string z2] = [_, _, Value.string ⟨z2.data.toList.toArray⟩]
  rw [show (⟨z2.data.toList.toArray⟩ : ByteArray) = z2 from ByteArray.ext (by simp)]
theorem open_rdToks {base : Nat} {v : Value} {d : DataW H} {p : List MemPlace} (hval : Value.okWide Tryz.prog W .any base 23 v) (h : DataW.Trod enc Tryz.prog W 0 (fun _ => true) true 23 v d p) :
    ∃ A n c, ∃ l : List Tok, v = .slice A n c ∧ n ≤ c ∧ c ≤ maxLen ∧ RdT W A n l ∧ l.length = n := by
  obtain ⟨fuel, hf⟩ := h
  obtain ⟨A, n, c, l, e, h1, h2, h3, h4, h5⟩ := open_rowCells (t := 23) (e := 44) (by kernel_rfl) (k := 3) (by kernel_rfl) (by omega) tokL tokL_len WfTok (fun _ _ _ _ h => open_tokCells h) hf
  exact ⟨A, n, c, l, slice_of (t2 := 44) (by kernel_rfl) hval e, h1, h2, h4, h3⟩
theorem flat_sv (l : List ByteArray) : (l.flatMap fun z => [Value.string z]) = sv l := by
  induction l with
  | nil => rfl
  | cons x l ih => rw [List.flatMap_cons, ih]; rfl
theorem open_rdTexts {base : Nat} {v : Value} {d : DataW H} {p : List MemPlace} (hval : Value.okWide Tryz.prog W .any base 39 v) (h : DataW.Trod enc Tryz.prog W 0 (fun _ => true) true 39 v d p) :
    ∃ A n c, ∃ l : List ByteArray, v = .slice A n c ∧ n ≤ c ∧ c ≤ maxLen ∧ Rd W A n (sv l) ∧ l.length = n := by
  obtain ⟨fuel, hf⟩ := h
  obtain ⟨A, n, c, l, e, h1, h2, h3, h4, h5⟩ := open_rowCells (t := 39) (e := 9) (by kernel_rfl) (k := 1) cStr (by omega) (fun z : ByteArray => [Value.string z]) (fun _ => rfl) (fun z => z.size ≤ maxLen) (fun _ _ _ _ h => oStr h) hf
  rw [flat_sv, Nat.mul_one] at h4
  exact ⟨A, n, c, l, slice_of (t2 := 9) (by kernel_rfl) hval e, h1, h2, h4, h3⟩
end
end Go.Proofs.YtiajmdmofjfdcaaGreatDoor
