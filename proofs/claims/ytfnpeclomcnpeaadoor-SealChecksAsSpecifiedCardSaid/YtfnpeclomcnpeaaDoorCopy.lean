/-
  copy from a string into an array that is known whole. Conditions: none.
-/
import Derived.Test.YtfnpeclomcnpeaaDoorLib
import Derived.Test.YtfnpeclomcnpeaaDoorRegion
import Derived.Laws.IdiomCopy
namespace Go.Proofs.YtfnpeclomcnpeaaDoor
set_option linter.unusedSimpArgs false
set_option linter.unusedVariables false
open Go.RowKit
section
variable {P : Program} {w : World}
theorem run_copyStr {dT sT ty e : TypeId} (hu : P.underlying dT = some (.slice e)) (hs : (P.info? e).map (·.size) = some 1) {g o dLen dCap : Nat} {s : ByteArray} {T : TypeId} {cs : Array Value}
    (hb : Blk w g T cs) (hfit : o + dLen ≤ cs.size) :
    (Builtin.copy_ #[dT, sT] ty #[.slice (some ⟨g, o, none⟩) dLen dCap, .string s]).run P w = .ok (goInt (Nat.min s.size dLen)) (w.setCells g o (bv (s.data.toList.take (Nat.min s.size dLen)))) := by
  have hl : (bv (s.data.toList.take (Nat.min s.size dLen))).length ≤ dLen := by
    have : Nat.min s.size dLen ≤ dLen := Nat.min_le_right _ _
    simp only [length_bv, List.length_take]
    omega
  have hst := run_storeCells_cells (P := P) g o (bv (s.data.toList.take (Nat.min s.size dLen))) 0 w (fun j hj => by rw [hb.cell]; simp; omega) (fun j hj => hb.free _) (oneCell_bv _)
  simp only [Nat.add_zero] at hst
  cases hq : P.info? e with
  | none => simp [hq] at hs
  | some i =>
    have htk : List.take (Nat.min s.size dLen) (List.map (fun b : UInt8 => Value.int IntKind.u8 (b.toNat : Int)) s.data.toList) = bv (s.data.toList.take (Nat.min s.size dLen)) := by
      rw [bv, List.map_take]
    simp [Builtin.copy_, run_underlying hu, Builtin.lenOf, Builtin.firstCells, sizeOf, typeInfo, hq]
    first | (rw [htk, hst]) | (simp only [htk, hst])
    simp [Result.andThen]
theorem wp_copyStr {o : Oper} {a : Act} {K : Act → World → Prop} {Q : Exit → Act → World → Prop} {d x : Operand} {dT sT e : TypeId}
    (ho : o.op = .call { callee := .builtin .copy, args := #[d, x], argTypes := #[dT, sT] }) (hu : P.underlying dT = some (.slice e)) (hs : (P.info? e).map (·.size) = some 1)
    {g f dLen dCap : Nat} {s : ByteArray} {T : TypeId} {cs : Array Value} (hd : a.eval d = .slice (some ⟨g, f, none⟩) dLen dCap) (hx : a.eval x = .string s) (hb : Blk w g T cs) (hfit : f + dLen ≤ cs.size)
    (h : ∀ k w', k = Nat.min s.size dLen → w' = w.setCells g f (bv (s.data.toList.take k)) → Blk w' g T (cs.toList.take f ++ bv (s.data.toList.take k) ++ cs.toList.drop (f + k)).toArray → K (a.put o.dst (.int .i64 k)) w') : o.wp P a w K Q := by
  have hrun := run_copyStr (P := P) (w := w) (dT := dT) (sT := sT) (ty := o.type) (dCap := dCap) hu hs (s := s) hb hfit
  have hlen : (bv (s.data.toList.take (Nat.min s.size dLen))).length = Nat.min s.size dLen := by
    have h2 : Nat.min s.size dLen ≤ s.size := Nat.min_le_left _ _
    simp only [length_bv, List.length_take, Array.length_toList]
    have h3 : s.data.size = s.size := rfl
    omega
  have hle : Nat.min s.size dLen ≤ dLen := Nat.min_le_right _ _
  have hrow := Blk.row g T (bv (s.data.toList.take (Nat.min s.size dLen))) f w cs hb (by omega)
  rw [hlen] at hrow
  have := h _ _ rfl rfl hrow
  unfold Oper.wp execOp
  simp only [ho, resolve, invoke, builtin, Sem.run_bind, Sem.run_pure, Result.andThen_ok, List.map_toArray, List.map_cons, List.map_nil, hd, hx, hrun]
  exact this
theorem wpList_copyStr {ops : Array Oper} {rest : List Oper} {o : Oper} {a : Act} {Q : Exit → Act → World → Prop} (hgd : o.guard = none) {d x : Operand} {dT sT e : TypeId}
    (ho : o.op = .call { callee := .builtin .copy, args := #[d, x], argTypes := #[dT, sT] }) (hu : P.underlying dT = some (.slice e)) (hs : (P.info? e).map (·.size) = some 1)
    {g f dLen dCap : Nat} {s : ByteArray} {T : TypeId} {cs : Array Value} (hd : a.eval d = .slice (some ⟨g, f, none⟩) dLen dCap) (hx : a.eval x = .string s) (hb : Blk w g T cs) (hfit : f + dLen ≤ cs.size)
    (h : ∀ k w', k = Nat.min s.size dLen → w' = w.setCells g f (bv (s.data.toList.take k)) → Blk w' g T (cs.toList.take f ++ bv (s.data.toList.take k) ++ cs.toList.drop (f + k)).toArray → wpList P ops Q rest (a.put o.dst (.int .i64 k)) w') : wpList P ops Q (o :: rest) a w :=
  wpList_plain hgd fun _ hK => wp_copyStr ho hu hs hd hx hb hfit fun k w' h1 h2 h3 => hK _ _ (h k w' h1 h2 h3)
/-- The tail of an array in memory. -/
theorem run_sliceArr {t e : TypeId} {n : Nat} (hu : P.underlying t = some (.array n e)) (hs : (P.info? e).map (·.size) = some 1) (g o a : Nat) (ha : a < n) (w : World) :
    (Instr.sliceAt t (.pointer (some ⟨g, o, none⟩)) (some (.int .i64 (a : Nat))) none none).run P w = .ok (.slice (some ⟨g, o + a, none⟩) (n - a) (n - a)) w := by
  have hl : P.arrayLen t = n := by simp [Program.arrayLen, hu]
  have he : P.elem t = e := by simp [Program.elem, hu]
  rw [run_sliceAt_array_l w t ⟨g, o, none⟩ (by rw [hl, he]; exact hu) .i64 (a : Nat) (by omega) (by rw [hl]; omega), hl, he]
  cases hq : P.info? e with
  | none => simp [hq] at hs
  | some i =>
    have hi : i.size = 1 := by simpa [hq] using hs
    have hne : ¬ n = a := by omega
    simp [sizeOf, typeInfo, hq, hi, slicedAt, hne]
    by_cases h0 : a = 0 <;> simp [Addr.add, h0]
/-- A struct or an array that is built, where its run is known. -/
theorem wpList_build {ops : Array Oper} {rest : List Oper} {o : Oper} {a : Act} {Q : Exit → Act → World → Prop} (hgd : o.guard = none) {t : TypeId} {parts : Array (Nat × Operand)} (ho : o.op = .build t parts) {v : Value}
    {ps : Array (Nat × Value)} (hp : (parts.map fun (i, x) => (i, a.eval x)) = ps) (hr : (Instr.build t ps).run P w = .ok v w) (h : wpList P ops Q rest (a.put o.dst v) w) : wpList P ops Q (o :: rest) a w :=
  wpList_plain hgd fun K hK => by
    subst hp
    unfold Oper.wp execOp
    simp only [ho, hr, Sem.run_bind, Result.andThen_ok, Sem.run_pure]
    exact hK _ _ h
/-- A new variable at its zero. -/
theorem wpList_alloc {ops : Array Oper} {rest : List Oper} {o : Oper} {a : Act} {Q : Exit → Act → World → Prop} (hgd : o.guard = none) {e : TypeId} {z : Value} (ho : o.op = .alloc e)
    (hz : (zeroValue e).run P w = .ok z w) (h : wpList P ops Q rest (a.put o.dst (.pointer (some ⟨w.heap.size, 0, none⟩))) (w.alloc (.cells z.cells e))) : wpList P ops Q (o :: rest) a w :=
  wpList_plain hgd fun K hK => wp_alloc ho hz (hK _ _ h)
/-- A new variable that holds a value. -/
theorem wpList_box {ops : Array Oper} {rest : List Oper} {o : Oper} {a : Act} {Q : Exit → Act → World → Prop} (hgd : o.guard = none) {e : TypeId} {x : Operand} {v : Value} (ho : o.op = .box e x) (hx : a.eval x = v)
    (h : wpList P ops Q rest (a.put o.dst (.pointer (some ⟨w.heap.size, 0, none⟩))) (w.alloc (.cells v.cells e))) : wpList P ops Q (o :: rest) a w :=
  wpList_plain hgd fun K hK => by
    unfold Oper.wp execOp
    simp only [ho, hx, Instr.box, newVar, newRow, Sem.run_bind, Result.andThen_ok, run_newObj_alloc, Sem.run_pure]
    exact hK _ _ h
end
end Go.Proofs.YtfnpeclomcnpeaaDoor
