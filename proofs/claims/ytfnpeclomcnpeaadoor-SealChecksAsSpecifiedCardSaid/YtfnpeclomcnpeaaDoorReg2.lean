/-
  A region of which three operations may come up at once. Conditions: none.
-/
import Derived.Test.YtfnpeclomcnpeaaDoorWire
namespace Go.Proofs.YtfnpeclomcnpeaaDoor
set_option linter.unusedSimpArgs false
set_option linter.unusedVariables false
open Go.RowKit
section
variable {P : Program} {ops : Array Oper} {Q : Exit → Act → World → Prop} {S : World → Prop} {t : Nat}
theorem WpT.fork3 {i j k : Nat} {o o' o'' : Oper} {f : Nat} {listed : Array Bool} {a : Act} {w : World} (hl : ops.toList[i]? = some o) (hl' : ops.toList[j]? = some o') (hl'' : ops.toList[k]? = some o'') (hr : Region.ready .any ops listed = [i, j, k])
    (h : ∀ K : Act → World → Prop, (∀ a w, S w → WpT P ops Q S t f (listed.setIfInBounds i true) a w → K a w) →
      if Region.wanted o (yielded ops a.tmps) = true then o.wp P a w K Q else K (a.put o.dst undef) w)
    (h' : ∀ K : Act → World → Prop, (∀ a w, S w → WpT P ops Q S t f (listed.setIfInBounds j true) a w → K a w) →
      if Region.wanted o' (yielded ops a.tmps) = true then o'.wp P a w K Q else K (a.put o'.dst undef) w)
    (h'' : ∀ K : Act → World → Prop, (∀ a w, S w → WpT P ops Q S t f (listed.setIfInBounds k true) a w → K a w) →
      if Region.wanted o'' (yielded ops a.tmps) = true then o''.wp P a w K Q else K (a.put o''.dst undef) w) : WpT P ops Q S t (f + 1) listed a w := by
  have hi : ops[i]? = some o := by rwa [Array.getElem?_toList] at hl
  have hj : ops[j]? = some o' := by rwa [Array.getElem?_toList] at hl'
  have hk : ops[k]? = some o'' := by rwa [Array.getElem?_toList] at hl''
  refine ⟨fun h0 => (by rw [hr] at h0; cases h0), fun q hq => ?_⟩
  rw [hr] at hq
  rcases (show q = i ∨ q = j ∨ q = k by simpa using hq) with rfl | rfl | rfl
  · have := h (fun a' w' => (q = t ∨ listed.getD t false = true ∨ S w') ∧ WpT P ops Q S t f (listed.setIfInBounds q true) a' w') (fun a w hS hW => ⟨.inr (.inr hS), hW⟩)
    unfold wpOp
    simp only [hi]
    split
    · rename_i hw; rw [if_pos hw] at this; exact .inl this
    · rename_i hw; rw [if_neg hw] at this; exact this
  · have := h' (fun a' w' => (q = t ∨ listed.getD t false = true ∨ S w') ∧ WpT P ops Q S t f (listed.setIfInBounds q true) a' w') (fun a w hS hW => ⟨.inr (.inr hS), hW⟩)
    unfold wpOp
    simp only [hj]
    split
    · rename_i hw; rw [if_pos hw] at this; exact .inl this
    · rename_i hw; rw [if_neg hw] at this; exact this
  · have := h'' (fun a' w' => (q = t ∨ listed.getD t false = true ∨ S w') ∧ WpT P ops Q S t f (listed.setIfInBounds q true) a' w') (fun a w hS hW => ⟨.inr (.inr hS), hW⟩)
    unfold wpOp
    simp only [hk]
    split
    · rename_i hw; rw [if_pos hw] at this; exact .inl this
    · rename_i hw; rw [if_neg hw] at this; exact this
end
section
variable {P : Program} {w : World} {o : Oper} {a : Act} {K : Act → World → Prop} {Q : Exit → Act → World → Prop}
/-- A new variable at its zero: the world behind it as a letter. -/
theorem wp_allocL {e : TypeId} {z : Value} (ho : o.op = .alloc e) (hz : (zeroValue e).run P w = .ok z w)
    (h : ∀ w' g, g = w.heap.size → Blk w' g e z.cells → Below w.heap.size w w' → K (a.put o.dst (.pointer (some ⟨g, 0, none⟩))) w') : o.wp P a w K Q :=
  wp_alloc ho hz (h _ _ rfl (Blk.new _ _ _) ((Below.refl _ _).alloc (Nat.le_refl _) _))
/-- A slice of one that a literal makes, where its run is known: the world behind it as a letter. -/
theorem wp_lit1 {t e : TypeId} {x : Operand} {u : Value} (ho : o.op = .buildSlice t 1 #[(0, x)]) (hx : a.eval x = u)
    (hr : (Instr.buildSlice t 1 #[(0, u)]).run P w = .ok (.slice (some ⟨w.heap.size, 0, none⟩) 1 1) (w.alloc (.cells #[u] e)))
    (h : ∀ w' g, g = w.heap.size → Rd w' (some ⟨g, 0, none⟩) 1 [u] → Below w.heap.size w w' → K (a.put o.dst (.slice (some ⟨g, 0, none⟩) 1 1)) w') : o.wp P a w K Q := by
  have h2 := h _ _ rfl (Rd.new1 w u e) ((Below.refl _ _).alloc (Nat.le_refl _) _)
  unfold Oper.wp execOp
  simp only [ho, List.map_toArray, List.map_cons, List.map_nil, hx, hr, Sem.run_bind, Result.andThen_ok, Sem.run_pure]
  exact h2
/-- string(b). -/
theorem wp_bts {src dst e : TypeId} {x : Operand} (ho : o.op = .convert src dst x) (hT : BytesTy P src e) (hd : P.underlying dst = some .string) {A : Option Addr} {n c : Nat} {l : List UInt8} (hx : a.eval x = .slice A n c) (h : Rd w A n (bv l))
    (k : K (a.put o.dst (.string ⟨l.toArray⟩)) w) : o.wp P a w K Q := by
  unfold Oper.wp execOp
  simp only [ho, hx, Sem.run_bind, run_bts (w := w) (c := c) hT hd h, Result.andThen_ok, Sem.run_pure]
  exact k
end
/-- A load of a part of a row. -/
theorem wpList_loadSub {P : Program} {w : World} {ops : Array Oper} {rest : List Oper} {o : Oper} {a : Act} {Q : Exit → Act → World → Prop} (hgd : o.guard = none) {ty : TypeId} {x : Operand} (ho : o.op = .load ty x)
    {g off n : Nat} (hx : a.eval x = .pointer (some ⟨g, off, none⟩)) {T : TypeId} {cs : Array Value} (hb : Blk w g T cs) (hn : off + n ≤ cs.size) (hu : (P.underlying ty).map isAggDesc = some true)
    (hi : (P.info? ty).map (·.size) = some n) {v : Value} (hv : .agg (cs.extract off (off + n)) = v) (h : wpList P ops Q rest (a.put o.dst v) w) : wpList P ops Q (o :: rest) a w := by
  subst hv
  cases hd : P.underlying ty with
  | none => rw [hd] at hu; cases hu
  | some d =>
    rw [hd] at hu
    refine wpList_load_mid hgd ty x ho g off hx (cs.extract off (off + n)).toList d (World.rangeAt_of_block hb off n) hd (by cases d <;> simp_all [isAggDesc]) (by rw [hi]; simp; omega) ?_
    rw [Array.toArray_toList]
    exact h
/-- A new variable of a row, filled at once. -/
theorem wpList_newRow {P : Program} {w : World} {ops : Array Oper} {rest : List Oper} {o1 o2 : Oper} {a : Act} {Q : Exit → Act → World → Prop} (hg1 : o1.guard = none) (hg2 : o2.guard = none) {e ty : TypeId} {z : Array Value} (h1 : o1.op = .alloc e)
    {x y : Operand} (h2 : o2.op = .store ty x y) (hz : (zeroValue e).run P w = .ok (.agg z) w) (hx : ∀ p, (a.put o1.dst (.pointer p)).eval x = .pointer p) {vs : Array Value} (hy : ∀ p, (a.put o1.dst (.pointer p)).eval y = .agg vs)
    (hs : vs.size = z.size) (hi : (P.info? ty).map (·.size) = some vs.size) (hone : vs.all (·.oneCell') = true)
    (h : ∀ w' g, g = w.heap.size → Blk w' g e vs → Below w.heap.size w w' → g < w'.heap.size → wpList P ops Q rest ((a.put o1.dst (.pointer (some ⟨g, 0, none⟩))).put o2.dst undef) w') : wpList P ops Q (o1 :: o2 :: rest) a w := by
  refine wpList_alloc hg1 h1 hz ?_
  have hB : Blk (w.alloc (.cells z e)) w.heap.size e z := Blk.new _ _ _
  refine wpList_storeRow hg2 h2 (hx _) (hy _) hB (by omega) hi hone ?_
  exact h _ w.heap.size rfl (hB.all vs hs) (below_setCells ((Below.refl _ _).alloc (Nat.le_refl _) _) (Nat.le_refl _) 0 vs.toList) (by rw [size_setCells]; exact hB.lt)
/-- A load of a row. -/
theorem wp_loadRow {P : Program} {w : World} {o : Oper} {a : Act} {K : Act → World → Prop} {Q : Exit → Act → World → Prop} {ty : TypeId} {x : Operand} (ho : o.op = .load ty x)
    {g : Nat} (hx : a.eval x = .pointer (some ⟨g, 0, none⟩)) {T : TypeId} {cs : Array Value} (hb : Blk w g T cs)
    (hu : (P.underlying ty).map isAggDesc = some true) (hi : (P.info? ty).map (·.size) = some cs.size)
    (h : K (a.put o.dst (.agg cs)) w) : o.wp P a w K Q := by
  unfold Oper.wp execOp
  simp only [ho, hx, Instr.loadAt, Instr.sureAddr, Sem.run_bind, Sem.run_pure, Result.andThen_ok, run_loadVar_blk w g T ty cs hb hu hi]
  exact h
theorem build1_u8 (u : Value) (h1 : u.oneCell' = true) (W : World) : (Instr.buildSlice 89 1 #[(0, u)]).run Tryd.prog W = .ok (.slice (some ⟨W.heap.size, 0, none⟩) 1 1) (W.alloc (.cells #[u] 5)) := by
  cases u <;> first | (simp [Value.oneCell'] at h1; done) | kernel_rfl
end Go.Proofs.YtfnpeclomcnpeaaDoor
