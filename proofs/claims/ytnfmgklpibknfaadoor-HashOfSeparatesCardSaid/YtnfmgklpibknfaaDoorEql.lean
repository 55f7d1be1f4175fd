/-
  Two arrays of bytes, held against each other. Conditions: none.
-/
import Derived.Test.YtnfmgklpibknfaaDoorGrd
import Derived.ChangeKeysEq
import Derived.Laws.StructEq
namespace Go.Proofs.YtnfmgklpibknfaaDoor
set_option linter.unusedSimpArgs false
set_option linter.unusedVariables false
open Go.RowKit Sha Crc
section
variable {P : Program} {e : TypeId}
theorem run_part_byte (he : P.underlying e = some (.int .u8)) (a : List UInt8) (i : Nat) (h : i < a.length) (w : World) : (Go.part e (bv a).toArray (i * 1)).run P w = .ok (.int .u8 ((a.getD i 0).toNat : Nat)) w := by
  have hagg : (isAgg e).run P w = .ok false w := by
    unfold isAgg
    rw [Sem.run_bind, run_underlying he w]
    simp
  have hc : (bv a).toArray[i]? = some (.int .u8 ((a.getD i 0).toNat : Nat)) := by simp [bv, h]
  simp [Go.part, Sem.run_bind, hagg, hc]
theorem run_eqItems_bytes (d : Nat) (he : P.underlying e = some (.int .u8)) (a b : List UInt8) (hl : a.length = b.length) (w : World) : ∀ is : List Nat, (∀ i ∈ is, i < a.length) →
    (Op.eqItems (d + 1) e 1 (bv a).toArray (bv b).toArray is).run P w = .ok (is.all fun i => a.getD i 0 == b.getD i 0) w
  | [], _ => by simp [Op.eqItems]
  | i :: is, h => by
    have hi := h i (by simp)
    have ih := run_eqItems_bytes d he a b hl w is fun j hj => h j (by simp [hj])
    have hx : ((((a.getD i 0).toNat : Nat) : Int) == (((b.getD i 0).toNat : Nat) : Int)) = (a.getD i 0 == b.getD i 0) := by
      rw [Bool.eq_iff_iff]
      simp only [beq_iff_eq]
      exact ⟨fun h => UInt8.toNat_inj.1 (by omega), fun h => by rw [h]⟩
    simp only [Op.eqItems, Sem.run_bind, run_part_byte he a i hi, run_part_byte he b i (by omega), Result.andThen_ok, run_equalIn_int w d e .u8 .u8 _ _ he, List.all_cons]
    rw [hx]
    cases hb : (a.getD i 0 == b.getD i 0)
    · simp
    · simp [ih]
theorem all_range (a b : List UInt8) (n : Nat) (ha : a.length = n) (hb : b.length = n) : ((List.range n).all fun i => a.getD i 0 == b.getD i 0) = decide (a = b) := by
  rw [Bool.eq_iff_iff]
  simp only [List.all_eq_true, List.mem_range, beq_iff_eq, decide_eq_true_eq]
  constructor
  · intro h
    apply List.ext_getElem (by omega)
    intro i h1 h2
    have := h i (by omega)
    simpa [h1, h2] using this
  · intro h i _
    rw [h]
theorem run_eql_bytes {t : TypeId} {n : Nat} {i : TypeInfo} (hu : P.underlying t = some (.array n e)) (hi : P.info? e = some i) (hc : P.cellsOf e = 1) (he : P.underlying e = some (.int .u8)) (a b : List UInt8) (ha : a.length = n) (hb : b.length = n) (w : World) :
    (binOp .eql t (.agg (bv a).toArray) (.agg (bv b).toArray)).run P w = .ok (.bool (decide (a = b))) w := by
  rw [run_eql_struct w t, run_equalIn_array w 9999 _ _ hu hi, hc, run_eqItems_bytes 9998 he a b (by omega) w (List.range n) (fun i h => by rw [ha]; simpa using h), all_range a b n ha hb]
  rfl
end
theorem wpList_loadRowG {P : Program} {w : World} {ops : Array Oper} {rest : List Oper} {o : Oper} {a : Act} {Q : Exit → Act → World → Prop} (hw : Region.wanted o (yielded ops a.tmps) = true) {ty : TypeId} {x : Operand} (ho : o.op = .load ty x)
    {g : Nat} (hx : a.eval x = .pointer (some ⟨g, 0, none⟩)) {T : TypeId} {cs : Array Value} (hb : Blk w g T cs)
    (hu : (P.underlying ty).map isAggDesc = some true) (hi : (P.info? ty).map (·.size) = some cs.size)
    (h : wpList P ops Q rest (a.put o.dst (.agg cs)) w) : wpList P ops Q (o :: rest) a w :=
  wpList_wanted hw fun _ hK => wp_loadRow ho hx hb hu hi (hK _ _ h)
/-- S is the hash of m: the stream of m and the call at m's bytes hand it back. -/
structure ShaOf (m S : List UInt8) : Prop where
  len : S.length = 32
  stream : ∀ b W, Tail m b → GCon W → Calls Tryd.prog 33 #[.agg (strmOf m b)] W fun e w' => e = .returned (.agg (bv S).toArray) ∧ Below W.heap.size W w'
  whole : ∀ A n c W, Rd W A n (bv m) → GCon W → Calls Tryd.prog 29 #[.slice A n c] W fun e w' => e = .returned (.agg (bv S).toArray) ∧ Below W.heap.size W w'
theorem shaOf (m : List UInt8) (h : m.length ≤ 549755813888) : ShaOf m (sha m) :=
  ⟨length_sha m, fun b W hT hg => ssum_any m b W hT h hg, fun A n c W hr hg => sum_any A n c m W h hr hg⟩
theorem eql_32 (a b : List UInt8) (ha : a.length = 32) (hb : b.length = 32) (w : World) : (binOp .eql 47 (.agg (bv a).toArray) (.agg (bv b).toArray)).run Tryd.prog w = .ok (.bool (decide (a = b))) w := by
  obtain ⟨i, h1, h2, h3, h4⟩ := info_parts (show (Tryd.prog.info? 5).map (fun i => (i.zero, i.size, i.bytes)) = some (some (.int .u8 0), 1, 1) by kernel_rfl)
  exact run_eql_bytes (e := 5) (by kernel_rfl) h1 (by kernel_rfl) (by kernel_rfl) a b ha hb w
theorem eql_32_same (a : List UInt8) (ha : a.length = 32) (w : World) : (binOp .eql 47 (.agg (bv a).toArray) (.agg (bv a).toArray)).run Tryd.prog w = .ok (.bool true) w := by
  rw [eql_32 a a ha ha]; simp
theorem eql_16 (a b : List UInt8) (ha : a.length = 16) (hb : b.length = 16) (w : World) : (binOp .eql 58 (.agg (bv a).toArray) (.agg (bv b).toArray)).run Tryd.prog w = .ok (.bool (decide (a = b))) w := by
  obtain ⟨i, h1, h2, h3, h4⟩ := info_parts (show (Tryd.prog.info? 5).map (fun i => (i.zero, i.size, i.bytes)) = some (some (.int .u8 0), 1, 1) by kernel_rfl)
  exact run_eql_bytes (e := 5) (by kernel_rfl) h1 (by kernel_rfl) (by kernel_rfl) a b ha hb w
theorem eql_16_same (a : List UInt8) (ha : a.length = 16) (w : World) : (binOp .eql 58 (.agg (bv a).toArray) (.agg (bv a).toArray)).run Tryd.prog w = .ok (.bool true) w := by
  rw [eql_16 a a ha ha]; simp
end Go.Proofs.YtnfmgklpibknfaaDoor
