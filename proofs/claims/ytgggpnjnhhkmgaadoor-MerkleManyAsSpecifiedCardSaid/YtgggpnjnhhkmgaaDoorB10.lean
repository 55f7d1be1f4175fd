/-
  These texts, joined.
  From the row's reading of digests, rows of digests and of numbers, and peaks to the walks' premises. Conditions: none.
-/
import Derived.Test.YtgggpnjnhhkmgaaDoorB9
import Derived.Test.YtgggpnjnhhkmgaaDoorCards
import Derived.Test.YtgggpnjnhhkmgaaDoorTie
import Derived.ProofKit
import Derived.OpenShut
import Derived.ShutString
import Derived.SliceStrings
import Derived.Carry
import Derived.Deep.DeepHandedRow
import Derived.Lib.LaidTab
import Derived.Stop.LaidErr
import Derived.Deep.Slices
import Derived.ChangeSame
import Derived.WideKeyPair
namespace Go.Proofs.YtgggpnjnhhkmgaaDoor
set_option linter.unusedSimpArgs false
set_option linter.unusedVariables false
set_option maxRecDepth 20000
open Go.ChangeShapes Go.WideShapes Go.ChangeAt Go.RowKit Sha Exch Merk

theorem own : ownKnob Tryd.prog.godebug = none := by kernel_rfl
theorem laidOut : laidOutB Tryd.prog = true := by kernel_rfl
theorem gCon : Tryd.prog.globalNamed "antiquary/hash.constants" = some 2 := by kernel_rfl
theorem gConT : (Tryd.prog.globals[2]?).map (·.type) = some 123 := by kernel_rfl
theorem con_of {W : World} {rest : List (String × DataW Unit)} (h : laidMet Tryd.prog (("antiquary/hash.constants", Rows.laid_antiquary_hash_constants) :: rest) W) : GCon W := by
  have t : Lib.TabIs Tryd.prog W "antiquary/hash.constants" .u32 (K.map fun n => ((n : Nat) : Int)) :=
    Lib.tabIs_of_head (rest := rest) gCon gConT (n := 64) (e := 100) (by kernel_rfl) (by kernel_rfl) (by kernel_rfl) (by kernel_rfl) h
  unfold Lib.TabIs World.var? at t
  rw [gCon] at t
  simp only [Option.bind_some] at t
  split at t
  · rename_i cs T fr hh
    injection t with t
    refine ⟨T, fr, ?_⟩
    rw [hh, t]
    simp [wv]
  · cases t
/-- A world for the witness: the settled one, the tables holding what their initialisers lay. -/
def layRow (cs : Array Value) : Obj → Obj
  | .cells _ t frozen => .cells cs t frozen
  | o => o
noncomputable def laidWorld (os : Os) : World :=
  { World.holding Tryd.prog os ⟨#[], #[], []⟩ with heap := (World.holding Tryd.prog os ⟨#[], #[], []⟩).heap.modify 2 (layRow (K.map fun n => Value.int .u32 (n : Nat)).toArray) }
theorem gRef : Tryd.prog.globalNamed "antiquary/antiquaryref02.constants" = some 3 := by kernel_rfl
theorem gRefT : (Tryd.prog.globals[3]?).map (·.type) = some 123 := by kernel_rfl
theorem rcon_of {W : World} {rest : List (String × DataW Unit)} (h : laidMet Tryd.prog (("antiquary/antiquaryref02.constants", Rows.laid_antiquary_antiquaryref02_constants) :: rest) W) : RCon W := by
  have t : Lib.TabIs Tryd.prog W "antiquary/antiquaryref02.constants" .u32 (K.map fun n => ((n : Nat) : Int)) :=
    Lib.tabIs_of_head (rest := rest) gRef gRefT (n := 64) (e := 100) (by kernel_rfl) (by kernel_rfl) (by kernel_rfl) (by kernel_rfl) h
  intro k hk
  have hlen : K.length = 64 := by decide
  rw [t.cell gRef k (by simp [hlen, hk])]
  simp [hlen, hk]
theorem gBru : Tryd.prog.globalNamed "math/bits.deBruijn64tab" = some 1 := by kernel_rfl
theorem gBruT : (Tryd.prog.globals[1]?).map (·.type) = some 102 := by kernel_rfl
theorem gBr2 : Tryd.prog.globalNamed "math/bits.deBruijn32tab" = some 0 := by kernel_rfl
theorem bru_of {W : World} {rest : List (String × DataW Unit)} (h : laidMet Tryd.prog (("math/bits.deBruijn64tab", Rows.laid_math_bits_deBruijn64tab) :: rest) W) : GBru W := by
  have t : Lib.TabIs Tryd.prog W "math/bits.deBruijn64tab" .u8 (Lib.deBruijn64tab.map fun n => ((n : Nat) : Int)) :=
    Lib.tabIs_of_head (rest := rest) gBru gBruT (n := 64) (e := 5) (by kernel_rfl) (by kernel_rfl) (by kernel_rfl) (by kernel_rfl) h
  intro k hk
  have hlen : Lib.deBruijn64tab.length = 64 := by decide
  rw [t.cell gBru k (by simp [hlen, hk])]
  simp [hlen, hk]
noncomputable def laidWorldR (os : Os) : World :=
  { laidWorld os with heap := (((laidWorld os).heap.modify 3 (layRow (K.map fun n => Value.int .u32 (n : Nat)).toArray)).modify 1 (layRow (Lib.deBruijn64tab.map fun n => Value.int .u8 (n : Nat)).toArray)).modify 0 (layRow (Lib.deBruijn32tab.map fun n => Value.int .u8 (n : Nat)).toArray) }
def partsT : TypeDesc → List (Nat × TypeId)
  | .struct fs => fs.toList.map fun f => (f.offset, f.type)
  | _ => []
theorem fields_of {d : Option TypeDesc} {l : List (Nat × TypeId)} (h : d.map partsT = some l) (hl : l ≠ []) : ∃ fs : Array Field, d = some (.struct fs) ∧ fs.toList.map (fun f => (f.offset, f.type)) = l := by
  cases d with
  | none => simp at h
  | some d =>
    simp only [Option.map_some, Option.some.injEq] at h
    cases d <;> simp only [partsT] at h <;> try (exact absurd h.symm hl)
    rename_i fs
    exact ⟨fs, rfl, h⟩
section
variable {H : Type} {enc : TypeId × Value → H} {W : World} {P : Program}
/-- The parts of a struct. -/
theorem struct_at {base fuel : Nat} {t : TypeId} {L : List (Nat × TypeId)} {cs : List Value} {x : DataW H × List MemPlace} (hu : (P.underlying t).map partsT = some L) (hL : L ≠ []) (h : DataW.trod enc P W base (fun _ => true) true fuel t cs = some x) :
    cs.length = P.cellsOf t ∧ ∀ (i o : Nat) (ty : TypeId), L[i]? = some (o, ty) → ∃ n y, DataW.trod enc P W base (fun _ => true) true n ty ((cs.drop o).take (P.cellsOf ty)) = some y := by
  obtain ⟨fs, hs, hf⟩ := fields_of hu hL
  obtain ⟨xs, n, _, _, hcl, hxl, hx⟩ := DataW.trod_struct hs h
  refine ⟨hcl, fun i o ty hi => ?_⟩
  rw [← hf, List.getElem?_map, Option.map_eq_some_iff] at hi
  obtain ⟨f, h1, h2⟩ := hi
  injection h2 with e1 e2
  subst e1; subst e2
  have h3 : fs[i]? = some f := by rw [← h1]; simp
  have h4 := hx i f h3
  rw [List.getElem?_eq_getElem (by rw [hxl]; exact (Array.getElem?_eq_some_iff.1 h3).1)] at h4
  exact ⟨n, _, h4⟩
theorem open_bytes {base fuel k : Nat} {t e : TypeId} (hu : P.underlying t = some (.array k e)) (he : P.underlying e = some (.int .u8)) (hc : P.cellsOf e = 1) (hct : P.cellsOf t = k) {cs : List Value} {x : DataW H × List MemPlace}
    (h : DataW.trod enc P W base (fun _ => true) true fuel t cs = some x) : ∃ L : List UInt8, cs = bv L ∧ L.length = k := by
  obtain ⟨xs, m, _, _, hl, hxl, hrow⟩ := DataW.trod_array hu h
  rw [hct] at hl
  have each : ∀ i, i < k → ∃ b : UInt8, cs[i]? = some (.int .u8 (b.toNat : Nat)) := fun i hi => by
    have h1 := hrow i hi
    rw [hc, Nat.mul_one] at h1
    rw [List.getElem?_eq_getElem (by omega)] at h1
    obtain ⟨n, e1, _, hw⟩ := DataW.trod_int he h1
    have hn : 0 ≤ n ∧ n < 256 := by simp [Lit.wf, IntKind.min, IntKind.max, IntKind.bits, IntKind.signed] at hw; omega
    refine ⟨UInt8.ofNat n.toNat, ?_⟩
    have e2 : cs[i]? = some (.int .u8 n) := by
      have h3 : (cs.drop i)[0]? = some (.int .u8 n) := by
        have : ((cs.drop i).take 1)[0]? = some (.int .u8 n) := by rw [e1]; rfl
        rwa [List.getElem?_take_of_lt (by omega)] at this
      rwa [List.getElem?_drop, Nat.add_zero] at h3
    rw [e2]
    have : ((UInt8.ofNat n.toNat).toNat : Int) = n := by simp; omega
    rw [this]
  haveI : Inhabited UInt8 := ⟨0⟩
  obtain ⟨f, hf2⟩ := Go.Deep.choose_lt each
  refine ⟨(List.range k).map f, ?_, by simp⟩
  apply List.ext_getElem?
  intro i
  by_cases hi : i < k
  · rw [hf2 i hi]
    simp [bv, hi]
  · rw [List.getElem?_eq_none (by omega), List.getElem?_eq_none (by simp [bv]; omega)]
/-- A slice of elements of k cells. -/
theorem open_rowCells {α : Type} [Inhabited α] {base fuel k : Nat} {t e : TypeId} (ht : P.underlying t = some (.slice e)) (hc : P.cellsOf e = k) (hk : 0 < k) (f : α → List Value) (hf : ∀ x, (f x).length = k) (Wf : α → Prop)
    (hel : ∀ base fuel cs x, DataW.trod enc P W base (fun _ => true) true fuel e cs = some x → ∃ a, cs = f a ∧ Wf a) {cs : List Value} {x : DataW H × List MemPlace} (h : DataW.trod enc P W base (fun _ => true) true fuel t cs = some x) :
    ∃ A n c, ∃ l : List α, cs = [.slice A n c] ∧ n ≤ c ∧ c ≤ maxLen ∧ l.length = n ∧ Rd W A (n * k) (l.flatMap f) ∧ ∀ a ∈ l, Wf a := by
  rcases Go.Deep.open_slice ht h with ⟨hcs, _⟩ | ⟨x, n, c, m, q, D, Pl, hcs, _, hl, hm, hmm, _, hrow⟩
  · exact ⟨none, 0, 0, [], hcs, Nat.le_refl _, by simp [maxLen], rfl, by rw [Nat.zero_mul]; exact Rd.none_ _, by simp⟩
  · simp only [if_true] at hmm
    have each : ∀ i, i < n → ∃ a : α, (∀ j u, (f a)[j]? = some u → W.cell? ((x.add (i * k)).add j) = some u) ∧ Wf a := fun i hi => by
      obtain ⟨cs', h1, h2⟩ := hrow i (by omega)
      obtain ⟨a, rfl, hw⟩ := hel _ _ _ _ h2
      refine ⟨a, fun j u hj => ?_, hw⟩
      rw [hc] at h1
      obtain ⟨_, hlen, hcell⟩ := World.cells?_some h1
      rw [hcell j (by have := (List.getElem?_eq_some_iff.1 hj).1; rw [hf] at this; exact this), hj]
    obtain ⟨K, hK⟩ := Go.Deep.choose_lt each
    refine ⟨some x, n, c, (List.range n).map K, hcs, hl, hm, by simp, ⟨by rw [length_fl hf]; simp, fun j u hj => ⟨x, rfl, ?_⟩⟩, fun r hr => ?_⟩
    · have hlt := (List.getElem?_eq_some_iff.1 hj).1
      rw [length_fl hf] at hlt
      simp only [List.length_map, List.length_range] at hlt
      have hdk : j / k < n := Nat.div_lt_of_lt_mul (by rw [Nat.mul_comm]; exact hlt)
      have e : j = j / k * k + j % k := by rw [Nat.mul_comm]; exact (Nat.div_add_mod j k).symm
      have hg := fl_get hf ((List.range n).map K) (j / k) (by simp; exact hdk) (j % k) (Nat.mod_lt _ hk)
      rw [← e] at hg
      rw [hg] at hj
      simp only [List.getElem_map, List.getElem_range] at hj
      have := (hK (j / k) hdk).1 (j % k) u hj
      rw [add_of_add, ← e] at this
      exact this
    · simp only [List.mem_map, List.mem_range] at hr
      obtain ⟨i, hi, rfl⟩ := hr
      exact (hK i hi).2
/-- A slice that came in lies in a block of the world. -/
theorem under_cell {base : Nat} {t e : TypeId} {A : Option Addr} {n c : Nat} (ht : P.underlying t = some (.slice e)) (h : Cell.okWide P W .any base t (.slice A n c)) : Under A W.heap.size := fun ad e2 => by
  subst e2
  simp only [Cell.okWide, ht, Cell.ok] at h
  obtain ⟨_, _, _, _, row, cells, h3, _⟩ := h
  unfold World.shape? at h3
  exact Nat.lt_of_not_le fun hc => by rw [Array.getElem?_eq_none hc] at h3; cases h3
theorem under_part {base i : Nat} {t u e : TypeId} {ts : List TypeId} {cs : Array Value} {A : Option Addr} {n c : Nat} {L : List (Nat × TypeId)} (hu : (P.underlying t).map partsT = some L) (hL : L ≠ []) (hval : Value.okWide P W .any base t (.agg cs)) (hts : P.cellTypes P.depth t = some ts) (hi : ts[i % ts.length]? = some u) (hse : P.underlying u = some (.slice e))
    (hc : cs[i]? = some (.slice A n c)) : Under A W.heap.size := by
  obtain ⟨fs, hs, _⟩ := fields_of hu hL
  simp only [Value.okWide, hs] at hval
  obtain ⟨cs', e1, _, ts', h1, _, h3⟩ := hval
  injection e1 with e1
  subst e1
  rw [hts] at h1
  obtain rfl := Option.some.inj h1
  obtain ⟨u', h4, h5⟩ := h3 i _ hc
  rw [hi] at h4
  obtain rfl := Option.some.inj h4
  exact under_cell hse h5
end
section
variable {H : Type} {enc : TypeId × Value → H} {W : World}
theorem uDg : Tryd.prog.underlying 31 = some (.array 16 5) := by kernel_rfl
theorem cDg : Tryd.prog.cellsOf 31 = 16 := by kernel_rfl
theorem cInt : Tryd.prog.cellsOf 3 = 1 := by kernel_rfl
theorem cStr : Tryd.prog.cellsOf 9 = 1 := by kernel_rfl
theorem uInt : Tryd.prog.underlying 3 = some (.int .i64) := by kernel_rfl
theorem uStr : Tryd.prog.underlying 9 = some .string := by kernel_rfl
theorem open_dgCells {base fuel : Nat} {cs : List Value} {x : DataW H × List MemPlace} (h : DataW.trod enc Tryd.prog W base (fun _ => true) true fuel 31 cs = some x) : ∃ n, cs = bv (dg n) ∧ n < 2 ^ 128 := by
  obtain ⟨L, rfl, hl⟩ := open_bytes uDg (by kernel_rfl) (by kernel_rfl) cDg h
  refine ⟨val L, by rw [dg_val hl], ?_⟩
  have := val_lt L
  rw [hl] at this
  exact this
theorem open_digest {base : Nat} {v : Value} {d : DataW H} {p : List MemPlace} (hval : Value.okWide Tryd.prog W .any base 31 v) (h : DataW.Trod enc Tryd.prog W 0 (fun _ => true) true 31 v d p) : ∃ n, v = dgV n ∧ n < 2 ^ 128 := by
  simp only [Value.okWide, uDg] at hval
  obtain ⟨cs, rfl, _⟩ := hval
  obtain ⟨fuel, hf⟩ := h
  obtain ⟨n, e, hn⟩ := open_dgCells hf
  refine ⟨n, ?_, hn⟩
  simp only [Value.cells] at e
  show Value.agg cs = .agg (bv (dg n)).toArray
  rw [← e]
theorem open_digests {base : Nat} {v : Value} {d : DataW H} {p : List MemPlace} (hval : Value.okWide Tryd.prog W .any base 22 v) (h : DataW.Trod enc Tryd.prog W 0 (fun _ => true) true 22 v d p) :
    ∃ A n c l, v = .slice A n c ∧ n ≤ c ∧ c ≤ maxLen ∧ RdD W A n l ∧ ∀ x ∈ l, x < 2 ^ 128 := by
  obtain ⟨fuel, hf⟩ := h
  obtain ⟨A, n, c, l, e, h1, h2, h3, h4, h5⟩ := open_rowCells (t := 22) (e := 31) (by kernel_rfl) (k := 16) (by kernel_rfl) (by omega) (fun n => bv (dg n)) bv_dg_len (fun n => n < 2 ^ 128) (fun _ _ _ _ h => open_dgCells h) hf
  have hs : Tryd.prog.underlying 22 = some (.slice 31) := by kernel_rfl
  obtain ⟨A0, n0, c0, rfl⟩ : ∃ A n c, v = .slice A n c := by
    cases v <;> simp only [Value.okWide, hs, Cell.okWide, Cell.ok] at hval <;> first | exact ⟨_, _, _, rfl⟩ | (simp [Value.cells] at e) | exact hval.elim
  simp only [Value.cells] at e
  injection e with e _
  injection e with e1 e2 e3
  subst e1; subst e2; subst e3
  exact ⟨_, _, _, l, rfl, h1, h2, ⟨h3, h4⟩, h5⟩
end
end Go.Proofs.YtgggpnjnhhkmgaaDoor
