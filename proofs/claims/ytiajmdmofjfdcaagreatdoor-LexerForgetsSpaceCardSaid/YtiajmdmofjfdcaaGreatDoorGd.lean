/-
  What a load yields behind '&&' and '||', where it is wanted. Conditions: none.
-/
import Derived.Test.YtiajmdmofjfdcaaGreatDoorRegion
import Derived.Test.YtiajmdmofjfdcaaGreatDoorCel
namespace Go.Proofs.YtiajmdmofjfdcaaGreatDoor
set_option linter.unusedSimpArgs false
set_option linter.unusedVariables false
open Go Go.RowKit
section
variable {P : Program} {ops : Array Oper} {w0 : World} {o : Oper} {a : Act}
theorem yields_loadW (hw : Region.wanted o (yielded ops a.tmps) = true) {t : TypeId} {x : Operand} {p : Addr} {v : Value} (ho : o.op = .load t x) (ha : a.eval x = .pointer (some p))
    (hu : (P.underlying t).map isAggDesc = some false) (hc : w0.cell? p = some v) : YieldsIf P ops (Below w0.heap.size w0) o v a := by
  refine .inl ⟨hw, fun w hS => ?_⟩
  have hc' : w.cell? p = some v := cell_later hS hc
  unfold execOp
  simp only [ho, ha, Instr.loadAt, Instr.sureAddr, Sem.run_bind, Sem.run_pure, Result.andThen_ok, run_loadVar_one w p t v hu hc']
theorem yields_blkW (hw : Region.wanted o (yielded ops a.tmps) = true) {t : TypeId} {x : Operand} {g : Nat} {T : TypeId} {cs : Array Value} (ho : o.op = .load t x) (ha : a.eval x = .pointer (some ⟨g, 0, none⟩))
    (hu : (P.underlying t).map isAggDesc = some true) (hi : (P.info? t).map (·.size) = some cs.size) (hb : Blk w0 g T cs) : YieldsIf P ops (Below w0.heap.size w0) o (.agg cs) a := by
  refine .inl ⟨hw, fun w hS => ?_⟩
  unfold execOp
  simp only [ho, ha, Instr.loadAt, Instr.sureAddr, Sem.run_bind, Sem.run_pure, Result.andThen_ok, run_loadVar_blk w g T t cs (hb.below hS) hu hi]
theorem yields_loadKW (hw : Region.wanted o (yielded ops a.tmps) = true) {t : TypeId} {x : Operand} {p : Addr} {us : List Value} (ho : o.op = .load t x) (ha : a.eval x = .pointer (some p))
    (hu : (P.underlying t).map isAggDesc = some true) (hi : (P.info? t).map (·.size) = some us.length) (hc : ∀ j u, us[j]? = some u → w0.cell? (p.add j) = some u) : YieldsIf P ops (Below w0.heap.size w0) o (.agg us.toArray) a := by
  refine .inl ⟨hw, fun w hS => ?_⟩
  unfold execOp
  simp only [ho, ha, Instr.loadAt, Instr.sureAddr, Sem.run_bind, Sem.run_pure, Result.andThen_ok, run_loadK (w := w) hu hi (fun j u h => cell_later hS (hc j u h))]
theorem wpList_want {w : World} {rest : List Oper} {Q : Exit → Act → World → Prop} (hw : Region.wanted o (yielded ops a.tmps) = true) (h : ∀ K : Act → World → Prop, (∀ a w, wpList P ops Q rest a w → K a w) → o.wp P a w K Q) : wpList P ops Q (o :: rest) a w :=
  wpList_step fun K hK => by rw [if_pos hw]; exact h K hK
theorem wpList_loadRowW {w : World} {rest : List Oper} {Q : Exit → Act → World → Prop} (hw : Region.wanted o (yielded ops a.tmps) = true) {ty : TypeId} {x : Operand} (ho : o.op = .load ty x)
    {g : Nat} (hx : a.eval x = .pointer (some ⟨g, 0, none⟩)) {T : TypeId} {cs : Array Value} (hb : Blk w g T cs)
    (hu : (P.underlying ty).map isAggDesc = some true) (hi : (P.info? ty).map (·.size) = some cs.size)
    (h : wpList P ops Q rest (a.put o.dst (.agg cs)) w) : wpList P ops Q (o :: rest) a w := by
  refine wpList_want hw fun K hK => ?_
  unfold Oper.wp execOp
  simp only [ho, hx, Instr.loadAt, Instr.sureAddr, Sem.run_bind, Sem.run_pure, Result.andThen_ok, run_loadVar_blk w g T ty cs hb hu hi]
  exact hK _ _ h
theorem wpList_loadKW {w : World} {rest : List Oper} {Q : Exit → Act → World → Prop} (hw : Region.wanted o (yielded ops a.tmps) = true) {t : TypeId} {x : Operand} (ho : o.op = .load t x) {p : Addr} (ha : a.eval x = .pointer (some p)) {us : List Value}
    (hu : (P.underlying t).map isAggDesc = some true) (hi : (P.info? t).map (·.size) = some us.length) (hc : ∀ j u, us[j]? = some u → w.cell? (p.add j) = some u) (h : wpList P ops Q rest (a.put o.dst (.agg us.toArray)) w) : wpList P ops Q (o :: rest) a w := by
  refine wpList_want hw fun K hK => ?_
  unfold Oper.wp execOp
  simp only [ho, ha, Instr.loadAt, Instr.sureAddr, Sem.run_bind, Sem.run_pure, Result.andThen_ok, run_loadK (w := w) hu hi hc]
  exact hK _ _ h
end
end Go.Proofs.YtiajmdmofjfdcaaGreatDoor
