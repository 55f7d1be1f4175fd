/-
  Two arrays of bytes, held against each other by the model's '==' and '!='. Conditions: none.
-/
import Derived.Test.YtfnpeclomcnpeaaDoorByt
import Derived.ChangeKeysEq
import Derived.Laws.StructEq
namespace Go.Proofs.YtfnpeclomcnpeaaDoor
set_option linter.unusedSimpArgs false
set_option linter.unusedVariables false
open Go.RowKit
section
variable {P : Program} {e : TypeId}
theorem run_part_byte (he : P.underlying e = some (.int .u8)) (a : List UInt8) (i : Nat) (h : i < a.length) (w : World) : (Go.part e (bv a).toArray (i * 1)).run P w = .ok (.int .u8 ((a.getD i 0).toNat : Nat)) w := by
  have hagg : (isAgg e).run P w = .ok false w := by
    unfold isAgg
    rw [Sem.run_bind, run_underlying he w]
    simp
  have hc : (bv a).toArray[i]? = some (.int .u8 ((a.getD i 0).toNat : Nat)) := by simp [bv, h]
  simp [Go.part, Sem.run_bind, hagg, hc]
theorem run_eqItems_bytes (d : Nat) (he : P.underlying e = some (.int .u8)) (a b : List UInt8) (hl : a.length = b.length) (w : World) : ∀ is : List Nat, (∀ i ∈ is, i < a.length) →
    (Op.eqItems (d + 1) e 1 (bv a).toArray (bv b).toArray is).run P w = .ok (is.all fun i => a.getD i 0 == b.getD i 0) w
  | [], _ => by simp [Op.eqItems]
  | i :: is, h => by
    have hi := h i (by simp)
    have ih := run_eqItems_bytes d he a b hl w is fun j hj => h j (by simp [hj])
    have hx : ((((a.getD i 0).toNat : Nat) : Int) == (((b.getD i 0).toNat : Nat) : Int)) = (a.getD i 0 == b.getD i 0) := by
      rw [Bool.eq_iff_iff]
      simp only [beq_iff_eq]
      exact ⟨fun h => UInt8.toNat_inj.1 (by omega), fun h => by rw [h]⟩
    simp only [Op.eqItems, Sem.run_bind, run_part_byte he a i hi, run_part_byte he b i (by omega), Result.andThen_ok, run_equalIn_int w d e .u8 .u8 _ _ he, List.all_cons]
    rw [hx]
    cases hb : (a.getD i 0 == b.getD i 0)
    · simp
    · simp [ih]
theorem all_range (a b : List UInt8) (n : Nat) (ha : a.length = n) (hb : b.length = n) : ((List.range n).all fun i => a.getD i 0 == b.getD i 0) = decide (a = b) := by
  rw [Bool.eq_iff_iff]
  simp only [List.all_eq_true, List.mem_range, beq_iff_eq, decide_eq_true_eq]
  constructor
  · intro h
    apply List.ext_getElem (by omega)
    intro i h1 h2
    have := h i (by omega)
    simpa [h1, h2] using this
  · intro h i _
    rw [h]
theorem run_eql_bytes {t : TypeId} {n : Nat} {i : TypeInfo} (hu : P.underlying t = some (.array n e)) (hi : P.info? e = some i) (hc : P.cellsOf e = 1) (he : P.underlying e = some (.int .u8)) (a b : List UInt8) (ha : a.length = n) (hb : b.length = n) (w : World) :
    (binOp .eql t (.agg (bv a).toArray) (.agg (bv b).toArray)).run P w = .ok (.bool (decide (a = b))) w := by
  rw [run_eql_struct w t, run_equalIn_array w 9999 _ _ hu hi, hc, run_eqItems_bytes 9998 he a b (by omega) w (List.range n) (fun i h => by rw [ha]; simpa using h), all_range a b n ha hb]
  rfl
theorem run_neq_bytes {t : TypeId} {n : Nat} {i : TypeInfo} (hu : P.underlying t = some (.array n e)) (hi : P.info? e = some i) (hc : P.cellsOf e = 1) (he : P.underlying e = some (.int .u8)) (a b : List UInt8) (ha : a.length = n) (hb : b.length = n) (w : World) :
    (binOp .neq t (.agg (bv a).toArray) (.agg (bv b).toArray)).run P w = .ok (.bool (!decide (a = b))) w := by
  rw [run_neq_struct w t, run_equalIn_array w 9999 _ _ hu hi, hc, run_eqItems_bytes 9998 he a b (by omega) w (List.range n) (fun i h => by rw [ha]; simpa using h), all_range a b n ha hb]
  rfl
end
end Go.Proofs.YtfnpeclomcnpeaaDoor
