/-
  Known of the functions of this seat's laws, joined. Conditions: each theorem's own.
-/
import Derived.Test.YtcapckngikekpaaGreatDoorE11
import Derived.Test.YtcapckngikekpaaGreatDoorCards
import Derived.Test.YtcapckngikekpaaGreatDoorTie
import Derived.ProofKit
import Derived.OpenShut
import Derived.ShutString
import Derived.SliceStrings
import Derived.Carry
import Derived.Deep.DeepHandedRow
import Derived.Lib.LaidTab
import Derived.Stop.LaidErr
import Derived.WideKeyPair
namespace Go.Proofs.YtcapckngikekpaaGreatDoor
set_option linter.unusedSimpArgs false
set_option linter.unusedVariables false
set_option maxRecDepth 100000
set_option maxHeartbeats 16000000
section
set_option maxRecDepth 20000
open Go.ChangeShapes Go.WideShapes Go.ChangeAt Go.RowKit Sha Exch Merk Ring
theorem own : ownKnob Tryz.prog.godebug = none := by kernel_rfl
theorem laidOut : laidOutB Tryz.prog = true := by kernel_rfl
theorem gCon : Tryz.prog.globalNamed "antiquary/hash.constants" = some 2 := by kernel_rfl
theorem gConT : (Tryz.prog.globals[2]?).map (·.type) = some 214 := by kernel_rfl
theorem con_of {W : World} {rest : List (String × DataW Unit)} (h : laidMet Tryz.prog (("antiquary/hash.constants", Rows.laid_antiquary_hash_constants) :: rest) W) : GCon W := by
 have t : Lib.TabIs Tryz.prog W "antiquary/hash.constants" .u32 (K.map fun n => ((n : Nat) : Int)) :=
  Lib.tabIs_of_head (rest := rest) gCon gConT (n := 64) (e := 186) (by kernel_rfl) (by kernel_rfl) (by kernel_rfl) (by kernel_rfl) h
 unfold Lib.TabIs World.var? at t
 rw [gCon] at t
 simp only [Option.bind_some] at t
 split at t
 ·rename_i cs T fr hh
  injection t with t
  refine ⟨T, fr, ?_⟩
  rw [hh, t]
  simp [wv]
 ·cases t
def zc2 (cs : Array Value) : Obj → Obj
 | .cells _ t frozen => .cells cs t frozen
 | o => o
noncomputable def zi1 (os : Os) : World :=
 { World.holding Tryz.prog os ⟨#[], #[], []⟩ with heap := (World.holding Tryz.prog os ⟨#[], #[], []⟩).heap.modify 2 (zc2 (K.map fun n => Value.int .u32 (n : Nat)).toArray) }
theorem gRef : Tryz.prog.globalNamed "antiquary/antiquaryref02.constants" = some 3 := by kernel_rfl
theorem gRefT : (Tryz.prog.globals[3]?).map (·.type) = some 214 := by kernel_rfl
theorem rcon_of {W : World} {rest : List (String × DataW Unit)} (h : laidMet Tryz.prog (("antiquary/antiquaryref02.constants", Rows.laid_antiquary_antiquaryref02_constants) :: rest) W) : RCon W := by
 have t : Lib.TabIs Tryz.prog W "antiquary/antiquaryref02.constants" .u32 (K.map fun n => ((n : Nat) : Int)) :=
  Lib.tabIs_of_head (rest := rest) gRef gRefT (n := 64) (e := 186) (by kernel_rfl) (by kernel_rfl) (by kernel_rfl) (by kernel_rfl) h
 intro k hk
 have hlen : K.length = 64 := by decide
 rw [t.cell gRef k (by simp [hlen, hk])]
 simp [hlen, hk]
theorem gBru : Tryz.prog.globalNamed "math/bits.deBruijn64tab" = some 1 := by kernel_rfl
theorem gBruT : (Tryz.prog.globals[1]?).map (·.type) = some 188 := by kernel_rfl
theorem bru_of {W : World} {rest : List (String × DataW Unit)} (h : laidMet Tryz.prog (("math/bits.deBruijn64tab", Rows.laid_math_bits_deBruijn64tab) :: rest) W) : GBru W := by
 have t : Lib.TabIs Tryz.prog W "math/bits.deBruijn64tab" .u8 (Lib.deBruijn64tab.map fun n => ((n : Nat) : Int)) :=
  Lib.tabIs_of_head (rest := rest) gBru gBruT (n := 64) (e := 5) (by kernel_rfl) (by kernel_rfl) (by kernel_rfl) (by kernel_rfl) h
 intro k hk
 have hlen : Lib.deBruijn64tab.length = 64 := by decide
 rw [t.cell gBru k (by simp [hlen, hk])]
 simp [hlen, hk]
noncomputable def laidWorldR (os : Os) : World :=
 { zi1 os with heap := (((zi1 os).heap.modify 3 (zc2 (K.map fun n => Value.int .u32 (n : Nat)).toArray)).modify 1 (zc2 (Lib.deBruijn64tab.map fun n => Value.int .u8 (n : Nat)).toArray)).modify 0 (zc2 (Lib.deBruijn32tab.map fun n => Value.int .u8 (n : Nat)).toArray) }
def z9d : TypeDesc → List (Nat × TypeId)
 | .struct fs => fs.toList.map fun f => (f.offset, f.type)
 | _ => []
theorem zbv {d : Option TypeDesc} {l : List (Nat × TypeId)} (h : d.map z9d = some l) (hl : l ≠ []) : ∃ fs : Array Field, d = some (.struct fs) ∧ fs.toList.map (fun f => (f.offset, f.type)) = l := by
 cases d with
 | none => simp at h
 | some d =>
  simp only [Option.map_some, Option.some.injEq] at h
  cases d <;> simp only [z9d] at h <;> try (exact absurd h.symm hl)
  rename_i fs
  exact ⟨fs, rfl, h⟩
section
variable {H : Type} {enc : TypeId × Value → H} {W : World} {P : Program}
theorem zcz {base fuel : Nat} {t : TypeId} {L : List (Nat × TypeId)} {cs : List Value} {x : DataW H × List MemPlace} (hu : (P.underlying t).map z9d = some L) (hL : L ≠ []) (h : DataW.trod enc P W base (fun _ => true) true fuel t cs = some x) :
  cs.length = P.cellsOf t ∧ ∀ (i o : Nat) (ty : TypeId), L[i]? = some (o, ty) → ∃ n y, DataW.trod enc P W base (fun _ => true) true n ty ((cs.drop o).take (P.cellsOf ty)) = some y := by
 obtain ⟨fs, hs, hf⟩ := zbv hu hL
 obtain ⟨xs, n, _, _, hcl, hxl, hx⟩ := DataW.trod_struct hs h
 refine ⟨hcl, fun i o ty hi => ?_⟩
 rw [← hf, List.getElem?_map, Option.map_eq_some_iff] at hi
 obtain ⟨f, h1, h2⟩ := hi
 injection h2 with e1 e2
 subst e1; subst e2
 have h3 : fs[i]? = some f := by rw [← h1]; simp
 have h4 := hx i f h3
 rw [List.getElem?_eq_getElem (by rw [hxl]; exact (Array.getElem?_eq_some_iff.1 h3).1)] at h4
 exact ⟨n, _, h4⟩
theorem ziw {base fuel k : Nat} {t e : TypeId} (hu : P.underlying t = some (.array k e)) (he : P.underlying e = some (.int .u8)) (hc : P.cellsOf e = 1) (hct : P.cellsOf t = k) {cs : List Value} {x : DataW H × List MemPlace}
  (h : DataW.trod enc P W base (fun _ => true) true fuel t cs = some x) : ∃ L : List UInt8, cs = bv L ∧ L.length = k := by
 obtain ⟨xs, m, _, _, hl, hxl, hrow⟩ := DataW.trod_array hu h
 rw [hct] at hl
 have each : ∀ i, i < k → ∃ b : UInt8, cs[i]? = some (.int .u8 (b.toNat : Nat)) := fun i hi => by
  have h1 := hrow i hi
  rw [hc, Nat.mul_one] at h1
  rw [List.getElem?_eq_getElem (by omega)] at h1
  obtain ⟨n, e1, _, hw⟩ := DataW.trod_int he h1
  have hn : 0 ≤ n ∧ n < 256 := by simp [Lit.wf, IntKind.min, IntKind.max, IntKind.bits, IntKind.signed] at hw; omega
  refine ⟨UInt8.ofNat n.toNat, ?_⟩
  have e2 : cs[i]? = some (.int .u8 n) := by
   have h3 : (cs.drop i)[0]? = some (.int .u8 n) := by
    have : ((cs.drop i).take 1)[0]? = some (.int .u8 n) := by rw [e1]; rfl
    rwa [List.getElem?_take_of_lt (by omega)] at this
   rwa [List.getElem?_drop, Nat.add_zero] at h3
  rw [e2]
  have : ((UInt8.ofNat n.toNat).toNat : Int) = n := by simp; omega
  rw [this]
 haveI : Inhabited UInt8 := ⟨0⟩
 obtain ⟨f, hf2⟩ := Go.Deep.choose_lt each
 refine ⟨(List.range k).map f, ?_, by simp⟩
 apply List.ext_getElem?
 intro i
 by_cases hi : i < k
 ·rw [hf2 i hi]
  simp [bv, hi]
 ·rw [List.getElem?_eq_none (by omega), List.getElem?_eq_none (by simp [bv]; omega)]
theorem ziz {α : Type} [Inhabited α] {base fuel k : Nat} {t e : TypeId} (ht : P.underlying t = some (.slice e)) (hc : P.cellsOf e = k) (hk : 0 < k) (f : α → List Value) (hf : ∀ x, (f x).length = k) (Wf : α → Prop)
  (hel : ∀ base fuel cs x, DataW.trod enc P W base (fun _ => true) true fuel e cs = some x → ∃ a, cs = f a ∧ Wf a) {cs : List Value} {x : DataW H × List MemPlace} (h : DataW.trod enc P W base (fun _ => true) true fuel t cs = some x) :
  ∃ A n c, ∃ l : List α, cs = [.slice A n c] ∧ n ≤ c ∧ c ≤ maxLen ∧ l.length = n ∧ Rd W A (n * k) (l.flatMap f) ∧ ∀ a ∈ l, Wf a := by
 rcases Go.Deep.open_slice ht h with ⟨hcs, _⟩ | ⟨x, n, c, m, q, D, Pl, hcs, _, hl, hm, hmm, _, hrow⟩
 ·exact ⟨none, 0, 0, [], hcs, Nat.le_refl _, by simp [maxLen], rfl, by rw [Nat.zero_mul]; exact Rd.none_ _, by simp⟩
 ·simp only [if_true] at hmm
  have each : ∀ i, i < n → ∃ a : α, (∀ j u, (f a)[j]? = some u → W.cell? ((x.add (i * k)).add j) = some u) ∧ Wf a := fun i hi => by
   obtain ⟨cs', h1, h2⟩ := hrow i (by omega)
   obtain ⟨a, rfl, hw⟩ := hel _ _ _ _ h2
   refine ⟨a, fun j u hj => ?_, hw⟩
   rw [hc] at h1
   obtain ⟨_, hlen, hcell⟩ := World.cells?_some h1
   rw [hcell j (by have := (List.getElem?_eq_some_iff.1 hj).1; rw [hf] at this; exact this), hj]
  obtain ⟨K, hK⟩ := Go.Deep.choose_lt each
  refine ⟨some x, n, c, (List.range n).map K, hcs, hl, hm, by simp, ⟨by rw [zc4 hf]; simp, fun j u hj => ⟨x, rfl, ?_⟩⟩, fun r hr => ?_⟩
  ·have hlt := (List.getElem?_eq_some_iff.1 hj).1
   rw [zc4 hf] at hlt
   simp only [List.length_map, List.length_range] at hlt
   have hdk : j / k < n := Nat.div_lt_of_lt_mul (by rw [Nat.mul_comm]; exact hlt)
   have e : j = j / k * k + j % k := by rw [Nat.mul_comm]; exact (Nat.div_add_mod j k).symm
   have hg := zal hf ((List.range n).map K) (j / k) (by simp; exact hdk) (j % k) (Nat.mod_lt _ hk)
   rw [← e] at hg
   rw [hg] at hj
   simp only [List.getElem_map, List.getElem_range] at hj
   have := (hK (j / k) hdk).1 (j % k) u hj
   rw [za7, ← e] at this
   exact this
  ·simp only [List.mem_map, List.mem_range] at hr
   obtain ⟨i, hi, rfl⟩ := hr
   exact (hK i hi).2
end
section
variable {H : Type} {enc : TypeId × Value → H} {W : World}
theorem uDg : Tryz.prog.underlying 25 = some (.array 16 5) := by kernel_rfl
theorem cDg : Tryz.prog.cellsOf 25 = 16 := by kernel_rfl
theorem z4c : Tryz.prog.cellsOf 3 = 1 := by kernel_rfl
theorem uInt : Tryz.prog.underlying 3 = some (.int .i64) := by kernel_rfl
theorem zcd {base fuel : Nat} {cs : List Value} {x : DataW H × List MemPlace} (h : DataW.trod enc Tryz.prog W base (fun _ => true) true fuel 25 cs = some x) : ∃ n, cs = bv (dg n) ∧ n < 2 ^ 128 := by
 obtain ⟨L, rfl, hl⟩ := ziw uDg (by kernel_rfl) (by kernel_rfl) cDg h
 refine ⟨val L, by rw [zah hl], ?_⟩
 have := z7m L
 rw [hl] at this
 exact this
theorem open_digests {base : Nat} {v : Value} {d : DataW H} {p : List MemPlace} (hval : Value.okWide Tryz.prog W .any base 37 v) (h : DataW.Trod enc Tryz.prog W 0 (fun _ => true) true 37 v d p) :
  ∃ A n c l, v = .slice A n c ∧ n ≤ c ∧ c ≤ maxLen ∧ RdD W A n l ∧ ∀ x ∈ l, x < 2 ^ 128 := by
 obtain ⟨fuel, hf⟩ := h
 obtain ⟨A, n, c, l, e, h1, h2, h3, h4, h5⟩ := ziz (t := 37) (e := 25) (by kernel_rfl) (k := 16) (by kernel_rfl) (by omega) (fun n => bv (dg n)) yf (fun n => n < 2 ^ 128) (fun _ _ _ _ h => zcd h) hf
 have hs : Tryz.prog.underlying 37 = some (.slice 25) := by kernel_rfl
 obtain ⟨A0, n0, c0, rfl⟩ : ∃ A n c, v = .slice A n c := by
  cases v <;> simp only [Value.okWide, hs, Cell.okWide, Cell.ok] at hval <;> first | exact ⟨_, _, _, rfl⟩ | (simp [Value.cells] at e) | exact hval.elim
 simp only [Value.cells] at e
 injection e with e _
 injection e with e1 e2 e3
 subst e1; subst e2; subst e3
 exact ⟨_, _, _, l, rfl, h1, h2, ⟨h3, h4⟩, h5⟩
theorem z2i (cs : List Value) (o n : Nat) : cs.drop o = (cs.drop o).take n ++ cs.drop (o + n) := by
 rw [← List.drop_drop]; exact (List.take_append_drop n (cs.drop o)).symm
theorem zem {P : Program} {base : Nat} {t : TypeId} {fs : Array Field} {v : Value} (hs : P.underlying t = some (.struct fs)) (hval : Value.okWide P W .any base t v) : ∃ cs, v = .agg cs := by
 simp only [Value.okWide, hs] at hval
 obtain ⟨cs, rfl, _⟩ := hval
 exact ⟨cs, rfl⟩
theorem zuz {n : Int} (h : (Lit.int .i64 n).wf = true) : -9223372036854775808 ≤ n ∧ n ≤ 9223372036854775807 := by
 simp [Lit.wf, IntKind.min, IntKind.max, IntKind.bits, IntKind.signed] at h
 omega
theorem z4h {base fuel : Nat} {cs : List Value} {x : DataW H × List MemPlace} (h : DataW.trod enc Tryz.prog W base (fun _ => true) true fuel 3 cs = some x) : ∃ z : Int, cs = [.int .i64 z] ∧ -9223372036854775808 ≤ z ∧ z ≤ 9223372036854775807 := by
 obtain ⟨z, e, _, w⟩ := DataW.trod_int uInt h
 exact ⟨z, e, zuz w⟩
theorem zio {base fuel : Nat} {cs : List Value} {x : DataW H × List MemPlace} (h : DataW.trod enc Tryz.prog W base (fun _ => true) true fuel 49 cs = some x) : ∃ n, cs = bv (dg n) ∧ n < 2 ^ 128 := by
 obtain ⟨L, rfl, hl⟩ := ziw (t := 49) (e := 5) (by kernel_rfl) (by kernel_rfl) (by kernel_rfl) (by kernel_rfl) h
 refine ⟨val L, by rw [zah hl], ?_⟩
 have := z7m L
 rw [hl] at this
 exact this
instance : Inhabited At := ⟨⟨⟨#[]⟩, 0, 0, ⟨#[]⟩⟩⟩
instance : Inhabited EvR := ⟨z8b⟩
instance : Inhabited Hd := ⟨z3a⟩
theorem zix {base fuel : Nat} {cs : List Value} {x : DataW H × List MemPlace} (h : DataW.trod enc Tryz.prog W base (fun _ => true) true fuel 29 cs = some x) : ∃ f : Fc, cs = fcL f ∧ z2s f ∧ f.blind < 2 ^ 128 := by
 obtain ⟨hl, hf⟩ := zcz (L := [(0, 3), (1, 3), (2, 3), (3, 3), (4, 3), (5, 3), (6, 3), (7, 25)]) (by kernel_rfl) (by simp) h
 rw [show Tryz.prog.cellsOf 29 = 23 by kernel_rfl] at hl
 obtain ⟨m0, y0, g0⟩ := hf 0 0 _ rfl
 rw [z4c] at g0
 obtain ⟨z0, e0, w0⟩ := z4h g0
 obtain ⟨m1, y1, g1⟩ := hf 1 1 _ rfl
 rw [z4c] at g1
 obtain ⟨z1, e1, w1⟩ := z4h g1
 obtain ⟨m2, y2, g2⟩ := hf 2 2 _ rfl
 rw [z4c] at g2
 obtain ⟨z2, e2, w2⟩ := z4h g2
 obtain ⟨m3, y3, g3⟩ := hf 3 3 _ rfl
 rw [z4c] at g3
 obtain ⟨z3, e3, w3⟩ := z4h g3
 obtain ⟨m4, y4, g4⟩ := hf 4 4 _ rfl
 rw [z4c] at g4
 obtain ⟨z4, e4, w4⟩ := z4h g4
 obtain ⟨m5, y5, g5⟩ := hf 5 5 _ rfl
 rw [z4c] at g5
 obtain ⟨z5, e5, w5⟩ := z4h g5
 obtain ⟨m6, y6, g6⟩ := hf 6 6 _ rfl
 rw [z4c] at g6
 obtain ⟨z6, e6, w6⟩ := z4h g6
 obtain ⟨m7, y7, g7⟩ := hf 7 7 _ rfl
 rw [cDg] at g7
 obtain ⟨z7, e7, w7⟩ := zcd g7
 have t8 : cs.drop 23 = [] := List.drop_of_length_le (by omega)
 have t7 := z2i cs 7 16
 rw [e7, t8] at t7
 have t6 := z2i cs 6 1
 rw [e6, t7] at t6
 have t5 := z2i cs 5 1
 rw [e5, t6] at t5
 have t4 := z2i cs 4 1
 rw [e4, t5] at t4
 have t3 := z2i cs 3 1
 rw [e3, t4] at t3
 have t2 := z2i cs 2 1
 rw [e2, t3] at t2
 have t1 := z2i cs 1 1
 rw [e1, t2] at t1
 have t0 := z2i cs 0 1
 rw [e0, t1] at t0
 rw [List.drop_zero] at t0
 exact ⟨⟨z0, z1, z2, z3, z4, z5, z6, z7⟩, by rw [t0]; simp [fcL], ⟨fun x hx => by simp only [z1j, List.mem_cons, List.not_mem_nil, or_false] at hx; rcases hx with rfl | rfl | rfl | rfl | rfl | rfl | rfl <;> assumption⟩, w7⟩
theorem ziy {base fuel : Nat} {cs : List Value} {x : DataW H × List MemPlace} (h : DataW.trod enc Tryz.prog W base (fun _ => true) true fuel 51 cs = some x) : ∃ h : Hd, cs = hdL h ∧ z0e h ∧ z2a h := by
 obtain ⟨hl, hf⟩ := zcz (L := [(0, 3), (1, 3), (2, 3), (3, 25), (19, 3), (20, 49)]) (by kernel_rfl) (by simp) h
 rw [show Tryz.prog.cellsOf 51 = 36 by kernel_rfl] at hl
 obtain ⟨m0, y0, g0⟩ := hf 0 0 _ rfl
 rw [z4c] at g0
 obtain ⟨z0, e0, w0⟩ := z4h g0
 obtain ⟨m1, y1, g1⟩ := hf 1 1 _ rfl
 rw [z4c] at g1
 obtain ⟨z1, e1, w1⟩ := z4h g1
 obtain ⟨m2, y2, g2⟩ := hf 2 2 _ rfl
 rw [z4c] at g2
 obtain ⟨z2, e2, w2⟩ := z4h g2
 obtain ⟨m3, y3, g3⟩ := hf 3 3 _ rfl
 rw [cDg] at g3
 obtain ⟨z3, e3, w3⟩ := zcd g3
 obtain ⟨m4, y4, g4⟩ := hf 4 19 _ rfl
 rw [z4c] at g4
 obtain ⟨z4, e4, w4⟩ := z4h g4
 obtain ⟨m5, y5, g5⟩ := hf 5 20 _ rfl
 rw [(show Tryz.prog.cellsOf 49 = 16 by kernel_rfl)] at g5
 obtain ⟨z5, e5, w5⟩ := zio g5
 have t6 : cs.drop 36 = [] := List.drop_of_length_le (by omega)
 have t5 := z2i cs 20 16
 rw [e5, t6] at t5
 have t4 := z2i cs 19 1
 rw [e4, t5] at t4
 have t3 := z2i cs 3 16
 rw [e3, t4] at t3
 have t2 := z2i cs 2 1
 rw [e2, t3] at t2
 have t1 := z2i cs 1 1
 rw [e1, t2] at t1
 have t0 := z2i cs 0 1
 rw [e0, t1] at t0
 rw [List.drop_zero] at t0
 exact ⟨⟨z0, z1, z2, z3, z4, z5⟩, by rw [t0]; simp [hdL], ⟨w3, w5⟩, ⟨fun x hx => by simp only [List.mem_cons, List.not_mem_nil, or_false] at hx; rcases hx with rfl | rfl | rfl | rfl <;> assumption⟩⟩
theorem zr1 {base fuel : Nat} {cs : List Value} {x : DataW H × List MemPlace} (h : DataW.trod enc Tryz.prog W base (fun _ => true) true fuel 69 cs = some x) : ∃ r : Rc, cs = rcL r ∧ z2s r.face ∧ r.face.blind < 2 ^ 128 ∧ r.sig < 2 ^ 128 ∧ z0x [r.office, r.serial] := by
 obtain ⟨hl, hf⟩ := zcz (L := [(0, 3), (1, 29), (24, 3), (25, 49)]) (by kernel_rfl) (by simp) h
 rw [show Tryz.prog.cellsOf 69 = 41 by kernel_rfl] at hl
 obtain ⟨m0, y0, g0⟩ := hf 0 0 _ rfl
 rw [z4c] at g0
 obtain ⟨z0, e0, w0⟩ := z4h g0
 obtain ⟨m1, y1, g1⟩ := hf 1 1 _ rfl
 rw [(show Tryz.prog.cellsOf 29 = 23 by kernel_rfl)] at g1
 obtain ⟨z1, e1, w1⟩ := zix g1
 obtain ⟨m2, y2, g2⟩ := hf 2 24 _ rfl
 rw [z4c] at g2
 obtain ⟨z2, e2, w2⟩ := z4h g2
 obtain ⟨m3, y3, g3⟩ := hf 3 25 _ rfl
 rw [(show Tryz.prog.cellsOf 49 = 16 by kernel_rfl)] at g3
 obtain ⟨z3, e3, w3⟩ := zio g3
 have t4 : cs.drop 41 = [] := List.drop_of_length_le (by omega)
 have t3 := z2i cs 25 16
 rw [e3, t4] at t3
 have t2 := z2i cs 24 1
 rw [e2, t3] at t2
 have t1 := z2i cs 1 23
 rw [e1, t2] at t1
 have t0 := z2i cs 0 1
 rw [e0, t1] at t0
 rw [List.drop_zero] at t0
 exact ⟨⟨z0, z1, z2, z3⟩, by rw [t0]; simp [rcL], w1.1, w1.2, w3, fun x hx => by simp only [List.mem_cons, List.not_mem_nil, or_false] at hx; rcases hx with rfl | rfl <;> assumption⟩
theorem zr2 {base fuel : Nat} {cs : List Value} {x : DataW H × List MemPlace} (h : DataW.trod enc Tryz.prog W base (fun _ => true) true fuel 63 cs = some x) : ∃ r : ShR, cs = shL r ∧ z2c W r ∧ z2s r.s.face ∧ z2a r.s.head := by
 obtain ⟨hl, hf⟩ := zcz (L := [(0, 29), (23, 37), (24, 51)]) (by kernel_rfl) (by simp) h
 rw [show Tryz.prog.cellsOf 63 = 60 by kernel_rfl] at hl
 obtain ⟨m0, y0, g0⟩ := hf 0 0 _ rfl
 rw [(show Tryz.prog.cellsOf 29 = 23 by kernel_rfl)] at g0
 obtain ⟨z0, e0, w0⟩ := zix g0
 obtain ⟨m1, y1, g1⟩ := hf 1 23 _ rfl
 rw [(show Tryz.prog.cellsOf 37 = 1 by kernel_rfl)] at g1
 obtain ⟨A1, n1, c1, z1, e1, a1, b1, l1, r1, w1⟩ := ziz (t := 37) (e := 25) (by kernel_rfl) (k := 16) (by kernel_rfl) (by omega) (fun n => bv (dg n)) yf (fun n => n < 2 ^ 128) (fun _ _ _ _ h => zcd h) g1
 obtain ⟨m2, y2, g2⟩ := hf 2 24 _ rfl
 rw [(show Tryz.prog.cellsOf 51 = 36 by kernel_rfl)] at g2
 obtain ⟨z2, e2, w2⟩ := ziy g2
 have t3 : cs.drop 60 = [] := List.drop_of_length_le (by omega)
 have t2 := z2i cs 24 36
 rw [e2, t3] at t2
 have t1 := z2i cs 23 1
 rw [e1, t2] at t1
 have t0 := z2i cs 0 23
 rw [e0, t1] at t0
 rw [List.drop_zero] at t0
 exact ⟨⟨⟨z0, z1, z2⟩, A1, n1, c1⟩, by rw [t0]; simp [shL], ⟨⟨l1, r1⟩, a1, b1, w1, w0.2, w2.1⟩, w0.1, w2.2⟩
theorem open_hd {base : Nat} {v : Value} {d : DataW H} {p : List MemPlace} (hval : Value.okWide Tryz.prog W .any base 51 v) (h : DataW.Trod enc Tryz.prog W 0 (fun _ => true) true 51 v d p) : ∃ h : Hd, v = hdV h ∧ z0e h ∧ z2a h := by
 obtain ⟨fs, hs, _⟩ := zbv (l := [(0, 3), (1, 3), (2, 3), (3, 25), (19, 3), (20, 49)]) (show (Tryz.prog.underlying 51).map z9d = _ by kernel_rfl) (by simp)
 obtain ⟨cs, rfl⟩ := zem hs hval
 obtain ⟨fuel, hf⟩ := h
 obtain ⟨r, e, hr⟩ := ziy hf
 refine ⟨r, ?_, hr⟩
 simp only [Value.cells] at e
 show Value.agg cs = .agg (hdL r).toArray
 rw [← e]
theorem open_rc {base : Nat} {v : Value} {d : DataW H} {p : List MemPlace} (hval : Value.okWide Tryz.prog W .any base 69 v) (h : DataW.Trod enc Tryz.prog W 0 (fun _ => true) true 69 v d p) : ∃ r : Rc, v = rcV r ∧ z2s r.face ∧ r.face.blind < 2 ^ 128 ∧ r.sig < 2 ^ 128 ∧ z0x [r.office, r.serial] := by
 obtain ⟨fs, hs, _⟩ := zbv (l := [(0, 3), (1, 29), (24, 3), (25, 49)]) (show (Tryz.prog.underlying 69).map z9d = _ by kernel_rfl) (by simp)
 obtain ⟨cs, rfl⟩ := zem hs hval
 obtain ⟨fuel, hf⟩ := h
 obtain ⟨r, e, hr⟩ := zr1 hf
 refine ⟨r, ?_, hr⟩
 simp only [Value.cells] at e
 show Value.agg cs = .agg (rcL r).toArray
 rw [← e]
theorem open_sh {base : Nat} {v : Value} {d : DataW H} {p : List MemPlace} (hval : Value.okWide Tryz.prog W .any base 63 v) (h : DataW.Trod enc Tryz.prog W 0 (fun _ => true) true 63 v d p) : ∃ r : ShR, v = shV r ∧ z2c W r ∧ z2s r.s.face ∧ z2a r.s.head := by
 obtain ⟨fs, hs, _⟩ := zbv (l := [(0, 29), (23, 37), (24, 51)]) (show (Tryz.prog.underlying 63).map z9d = _ by kernel_rfl) (by simp)
 obtain ⟨cs, rfl⟩ := zem hs hval
 obtain ⟨fuel, hf⟩ := h
 obtain ⟨r, e, hr⟩ := zr2 hf
 refine ⟨r, ?_, hr⟩
 simp only [Value.cells] at e
 show Value.agg cs = .agg (shL r).toArray
 rw [← e]
end
end
end Go.Proofs.YtcapckngikekpaaGreatDoor
