/-
  Slices of pairs of integers: loads, stores, append, clone. Conditions: none.
-/
import Derived.Test.YtcehaojohfbfkaaDoorBnd
namespace Go.Proofs.YtcehaojohfbfkaaDoor
set_option linter.unusedSimpArgs false
set_option linter.unusedVariables false
open Go.RowKit Proj
section
variable {P : Program} {w : World}
theorem run_isAgg {ty : TypeId} (hu : (P.underlying ty).map isAggDesc = some true) (w : World) : (isAgg ty).run P w = .ok true w := by
  cases h : P.underlying ty with
  | none => rw [h] at hu; cases hu
  | some d =>
    rw [h] at hu
    unfold isAgg
    rw [Sem.run_bind, run_underlying h w]
    cases d <;> simp_all [isAggDesc]
theorem run_sizeOf {ty : TypeId} {n : Nat} (hi : (P.info? ty).map (·.size) = some n) (w : World) : (sizeOf ty).run P w = .ok n w := by
  cases hq : P.info? ty with
  | none => simp [hq] at hi
  | some inf =>
    have hsz : inf.size = n := by simpa [hq] using hi
    simp [sizeOf, typeInfo, hq, hsz]
theorem run_loadPair {p : Addr} {ty : TypeId} {u0 u1 : Value} (hu : (P.underlying ty).map isAggDesc = some true) (hi : (P.info? ty).map (·.size) = some 2) (h0 : w.cell? p = some u0) (h1 : w.cell? ⟨p.block, p.off + 1, none⟩ = some u1) :
    (loadVar ty p).run P w = .ok (.agg #[u0, u1]) w := by
  have hl := run_loadCells_list (P := P) (w := w) p [u0, u1] (fun j v hj => by
    match j, hj with
    | 0, hj => simp at hj; subst hj; exact h0
    | 1, hj => simp at hj; subst hj; exact h1)
  simp only [List.length_cons, List.length_nil] at hl
  unfold loadVar
  rw [Sem.run_bind, run_isAgg hu, Result.andThen_ok]
  simp [Sem.run_bind, run_sizeOf hi, hl]
theorem yields_pair {ops : Array Oper} {w0 : World} {o : Oper} {a : Act} {t : TypeId} {x : Operand} {p : Addr} {u0 u1 : Value} (ho : o.op = .load t x) (hg : o.guard = none) (ha : a.eval x = .pointer (some p))
    (hu : (P.underlying t).map isAggDesc = some true) (hi : (P.info? t).map (·.size) = some 2) (h0 : w0.cell? p = some u0) (h1 : w0.cell? ⟨p.block, p.off + 1, none⟩ = some u1) : YieldsIf P ops (Below w0.heap.size w0) o (.agg #[u0, u1]) a := by
  refine .inl ⟨by simp [Region.wanted, hg], fun w hS => ?_⟩
  unfold execOp
  simp only [ho, ha, Instr.loadAt, Instr.sureAddr, Sem.run_bind, Sem.run_pure, Result.andThen_ok, run_loadPair (w := w) hu hi (cell_below hS h0) (cell_below hS h1)]
theorem wpList_loadPair {ops : Array Oper} {rest : List Oper} {o : Oper} {a : Act} {Q : Exit → Act → World → Prop} (hgd : o.guard = none) {t : TypeId} {x : Operand} (ho : o.op = .load t x) {p : Addr} (ha : a.eval x = .pointer (some p)) {u0 u1 : Value}
    (hu : (P.underlying t).map isAggDesc = some true) (hi : (P.info? t).map (·.size) = some 2) (h0 : w.cell? p = some u0) (h1 : w.cell? ⟨p.block, p.off + 1, none⟩ = some u1) (h : wpList P ops Q rest (a.put o.dst (.agg #[u0, u1])) w) : wpList P ops Q (o :: rest) a w :=
  wpList_plain hgd fun K hK => by
    unfold Oper.wp execOp
    simp only [ho, ha, Instr.loadAt, Instr.sureAddr, Sem.run_bind, Sem.run_pure, Result.andThen_ok, run_loadPair (w := w) hu hi h0 h1]
    exact hK _ _ h
/-- A store of a pair into a row of the call's own. -/
theorem wp_storePair {o : Oper} {a : Act} {K : Act → World → Prop} {Q : Exit → Act → World → Prop} {ty : TypeId} {x y : Operand} (ho : o.op = .store ty x y) (hi : (P.info? ty).map (·.size) = some 2)
    {g j : Nat} (hx : a.eval x = .pointer (some ⟨g, j, none⟩)) {u0 u1 : Value} (hy : a.eval y = .agg #[u0, u1]) (h0 : u0.oneCell' = true) (h1 : u1.oneCell' = true) {B : Nat} {e : TypeId} {n c size : Nat} {xs : List Value}
    (hown : w.ownsRow B e size (.slice (some ⟨g, 0, none⟩) n c) n xs) (hj : j + 1 < n * size)
    (h : ∀ w', w'.ownsRow B e size (.slice (some ⟨g, 0, none⟩) n c) n ((xs.set j u0).set (j + 1) u1) → Below B w w' → K (a.put o.dst undef) w') : o.wp P a w K Q := by
  have hlen : j + 1 < xs.length := by rw [hown.1]; exact hj
  have hc : w.cell? ⟨g, j, none⟩ = some xs[j] := by rw [hown.cellAt j (by omega)]; simp
  have hs := run_store_one (P := P) w ⟨g, j, none⟩ u0 h0 hc (hown.frozenAt j)
  obtain ⟨k1, k2⟩ := hown.stored j u0
  have hc2 : (w.setCell ⟨g, j, none⟩ u0).cell? ⟨g, j + 1, none⟩ = some ((xs.set j u0)[j + 1]'(by simpa using hlen)) := by rw [k1.cellAt (j + 1) hj]; simp
  have hs2 := run_store_one (P := P) (w.setCell ⟨g, j, none⟩ u0) ⟨g, j + 1, none⟩ u1 h1 hc2 (k1.frozenAt (j + 1))
  obtain ⟨l1, l2⟩ := k1.stored (j + 1) u1
  have hBg : B ≤ g := (World.ownsRow.lt hown g rfl).1
  have hb : Below B w ((w.setCell ⟨g, j, none⟩ u0).setCell ⟨g, j + 1, none⟩ u1) := ((Below.refl B w).setCell hBg u0).setCell hBg u1
  have hadd : (⟨g, j, none⟩ : Addr).add 0 = ⟨g, j, none⟩ := rfl
  have hadd1 : (⟨g, j, none⟩ : Addr).add 1 = ⟨g, j + 1, none⟩ := rfl
  have hcells : (Value.agg #[u0, u1]).cells = #[u0, u1] := rfl
  cases hq : P.info? ty with
  | none => simp [hq] at hi
  | some inf =>
    have hsz : inf.size = 2 := by simpa [hq] using hi
    unfold Oper.wp execOp
    simp only [ho, hx, hy, Instr.storeAt, Instr.sureAddr, storeVar, hcells, sizeOf, typeInfo, Sem.run_bind, Sem.run_pure, Result.andThen_ok]
    simp [hq, hsz, storeCells, hadd, hadd1, hs, hs2, Sem.run_bind]
    exact h _ l1 hb
end
/-- Pairs as cells. -/
def pv (rs : List (Int × Int)) : List Value := rs.flatMap fun r => [.int .i64 r.1, .int .i64 r.2]
theorem pv_app (a b : List (Int × Int)) : pv (a ++ b) = pv a ++ pv b := by simp [pv]
theorem length_pv : ∀ rs, (pv rs).length = rs.length * 2
  | [] => rfl
  | r :: rs => by have := length_pv rs; simp only [pv, List.flatMap_cons, List.length_append, List.length_cons, List.length_nil] at this ⊢; omega
theorem oneCell_pv (rs : List (Int × Int)) : ∀ u ∈ pv rs, u.oneCell' = true := by
  intro u hu
  simp only [pv, List.mem_flatMap] at hu
  obtain ⟨r, _, hu⟩ := hu
  simp only [List.mem_cons, List.not_mem_nil, or_false] at hu
  rcases hu with rfl | rfl <;> rfl
theorem pv_get : ∀ (rs : List (Int × Int)) (k : Nat) (h : k < rs.length), (pv rs)[k * 2]? = some (.int .i64 rs[k].1) ∧ (pv rs)[k * 2 + 1]? = some (.int .i64 rs[k].2)
  | r :: rs, 0, _ => ⟨rfl, rfl⟩
  | r :: rs, k + 1, h => by
    have := pv_get rs k (by simpa using h)
    have e : pv (r :: rs) = .int .i64 r.1 :: .int .i64 r.2 :: pv rs := rfl
    rw [e, show (k + 1) * 2 = k * 2 + 2 by omega]
    simpa using this
theorem pv_set : ∀ (rs : List (Int × Int)) (k : Nat) (x y : Int), ((pv rs).set (k * 2) (.int .i64 x)).set (k * 2 + 1) (.int .i64 y) = pv (rs.set k (x, y))
  | [], k, x, y => by simp [pv]
  | r :: rs, 0, x, y => rfl
  | r :: rs, k + 1, x, y => by
    have := pv_set rs k x y
    have e : ∀ r rs, pv (r :: rs) = .int .i64 r.1 :: .int .i64 r.2 :: pv rs := fun _ _ => rfl
    rw [List.set_cons_succ, e, e, show (k + 1) * 2 = k * 2 + 2 by omega, ← this]
    rfl
/-- A slice of pairs of the call's own. -/
def OwnP (w : World) (B : Nat) (v : Value) (rs : List (Int × Int)) : Prop := w.ownsRow B 45 2 v rs.length (pv rs)
section
variable {w w' : World} {B : Nat} {v : Value} {rs : List (Int × Int)}
theorem OwnP.nil (w : World) (B : Nat) : OwnP w B (.slice none 0 0) [] := World.ownsRow_nil w B _ 2
theorem OwnP.alloc (h : OwnP w B v rs) (o : Obj) : OwnP (w.alloc o) B v rs := World.ownsRow.alloc h o
theorem OwnP.drew (h : OwnP w B v rs) : OwnP w.drew B v rs := h
theorem OwnP.below (h : OwnP w B v rs) (hb : Below w.heap.size w w') : OwnP w' B v rs := by
  refine ⟨h.1, ?_⟩
  rcases h.2 with h2 | ⟨g, cap, cur, hv, hg, hh, r⟩
  · exact .inl h2
  · refine .inr ⟨g, cap, cur, hv, hg, ?_, r⟩
    have hlt := (World.ownsRow.lt h g (by rw [hv]; rfl)).2
    rw [hb.block g hlt]; exact hh
theorem OwnP.lower {B' : Nat} (h : OwnP w B v rs) (hB : B' ≤ B) : OwnP w B' v rs := by
  refine ⟨h.1, ?_⟩
  rcases h.2 with h2 | ⟨g, cap, cur, hv, hg, r⟩
  · exact .inl h2
  · exact .inr ⟨g, cap, cur, hv, by omega, r⟩
theorem OwnP.form (h : OwnP w B v rs) : ∃ A c, v = .slice A rs.length c ∧ rs.length ≤ c ∧ c ≤ maxLen ∧ RdP w A rs.length rs := by
  have h0 := h
  rcases h.2 with ⟨rfl, hn⟩ | ⟨g, cap, cur, rfl, _, _, hc, hm, _⟩
  · have : rs = [] := List.eq_nil_of_length_eq_zero hn
    subst this
    exact ⟨none, 0, rfl, by simp, by simp [maxLen], ⟨rfl, fun k hk => by simp at hk⟩⟩
  · refine ⟨some ⟨g, 0, none⟩, cap, rfl, hc, hm, rfl, fun k hk => ⟨_, rfl, ?_, ?_⟩⟩
    · exact World.ownsRow.cells h0 rfl _ _ (pv_get rs k hk).1
    · exact World.ownsRow.cells h0 rfl _ _ (pv_get rs k hk).2
theorem OwnP.someN (h : OwnP w B v rs) (hn : 0 < rs.length) : ∃ g c, v = .slice (some ⟨g, 0, none⟩) rs.length c ∧ B ≤ g ∧ rs.length ≤ c ∧ c ≤ maxLen := by
  rcases h.2 with ⟨_, h0⟩ | ⟨g, cap, cur, hv, hg, _, hc, hm, _⟩
  · omega
  · exact ⟨g, cap, hv, hg, hc, hm⟩
end
theorem RdP.cells {w : World} {ad : Addr} {n : Nat} {rs : List (Int × Int)} (h : RdP w (some ad) n rs) : ∀ j u, (pv rs)[j]? = some u → w.cell? (ad.add j) = some u := by
  intro j u hj
  have hlt : j < (pv rs).length := (List.getElem?_eq_some_iff.1 hj).1
  rw [length_pv] at hlt
  obtain ⟨ad', e, h1, h2⟩ := h.cell (j / 2) (by omega)
  injection e with e
  subst e
  have hg := pv_get rs (j / 2) (by omega)
  rcases (by omega : j = j / 2 * 2 ∨ j = j / 2 * 2 + 1) with hj2 | hj2
  · rw [hj2, hg.1] at hj; injection hj with hj; rw [hj2, h1, hj]
  · rw [hj2, hg.2] at hj; injection hj with hj; rw [hj2, h2, hj]
theorem run_appP {w : World} {ty : TypeId} {B : Nat} {v : Value} {rs : List (Int × Int)} (hown : OwnP w B v rs) {ad : Addr} {m c : Nat} {ys : List (Int × Int)} (hm : ys.length = m) (hr : ∀ j u, (pv ys)[j]? = some u → w.cell? (ad.add j) = some u)
    (hlen : rs.length + m ≤ 1099511627776) (hB : B ≤ w.heap.size) :
    ∃ v' w', (Builtin.append_ #[29, 29] ty #[v, .slice (some ad) m c]).run Tryd.prog w = .ok v' w' ∧ OwnP w' B v' (rs ++ ys) ∧ w.grownBy w' v.ownBlock := by
  obtain ⟨i, hi, hz, hs, hb⟩ := info_parts (show (Tryd.prog.info? 45).map (fun i => (i.zero, i.size, i.bytes)) = some (some (.agg #[.int .i64 0, .int .i64 0]), 2, 16) by kernel_rfl)
  obtain ⟨v', w', hrun, h2, h3, _, _⟩ := run_append_own_at (P := Tryd.prog) w B 29 ty 45 i (.agg #[.int .i64 0, .int .i64 0]) 2 16 (by kernel_rfl) hi hz hs hb rfl (by omega) v rs.length (pv rs) hown ad m c (pv ys) (by rw [length_pv, hm]) hr (oneCell_pv ys)
    (by simp only [maxLen]; omega) (by omega) hB
  refine ⟨v', w', hrun, ?_, h3⟩
  unfold OwnP
  rw [List.length_append, hm, pv_app]
  exact h2
theorem wp_appP {w : World} {o : Oper} {a : Act} {K : Act → World → Prop} {Q : Exit → Act → World → Prop} {s x : Operand}
    (ho : o.op = .call { callee := .builtin .append, args := #[s, x], argTypes := #[29, 29] }) {B : Nat} {v : Value} {rs : List (Int × Int)} (hs : a.eval s = v) (hown : OwnP w B v rs)
    {ad : Addr} {m c : Nat} {ys : List (Int × Int)} (hx : a.eval x = .slice (some ad) m c) (hm : ys.length = m) (hr : ∀ j u, (pv ys)[j]? = some u → w.cell? (ad.add j) = some u) (hlen : rs.length + m ≤ 1099511627776) (hB : B ≤ w.heap.size)
    (h : ∀ v' w', OwnP w' B v' (rs ++ ys) → Below B w w' → K (a.put o.dst v') w') : o.wp Tryd.prog a w K Q := by
  obtain ⟨v', w', hrun, h2, h3⟩ := run_appP (w := w) (ty := o.type) (c := c) hown hm hr hlen hB
  unfold Oper.wp execOp
  simp only [ho, resolve, invoke, builtin, Sem.run_bind, Sem.run_pure, Result.andThen_ok, List.map_toArray, List.map_cons, List.map_nil, hs, hx, hrun]
  exact h v' w' h2 ((Below.refl B w).grown h3 hB fun k hk => ((World.ownsRow.lt hown) k hk).1)
theorem wpList_appP {w : World} {ops : Array Oper} {rest : List Oper} {o : Oper} {a : Act} {Q : Exit → Act → World → Prop} (hgd : o.guard = none) {s x : Operand}
    (ho : o.op = .call { callee := .builtin .append, args := #[s, x], argTypes := #[29, 29] }) {B : Nat} {v : Value} {rs : List (Int × Int)} (hs : a.eval s = v) (hown : OwnP w B v rs)
    {ad : Addr} {m c : Nat} {ys : List (Int × Int)} (hx : a.eval x = .slice (some ad) m c) (hm : ys.length = m) (hr : ∀ j u, (pv ys)[j]? = some u → w.cell? (ad.add j) = some u) (hlen : rs.length + m ≤ 1099511627776) (hB : B ≤ w.heap.size)
    (h : ∀ v' w', OwnP w' B v' (rs ++ ys) → Below B w w' → wpList Tryd.prog ops Q rest (a.put o.dst v') w') : wpList Tryd.prog ops Q (o :: rest) a w :=
  wpList_plain hgd fun _ hK => wp_appP ho hs hown hx hm hr hlen hB fun v' w' h2 h3 => hK _ _ (h v' w' h2 h3)
/-- The row of one pair that a literal makes. -/
theorem new1P (w : World) (r : Int × Int) (t : TypeId) : ∀ j u, (pv [r])[j]? = some u → (w.alloc (.cells #[.int .i64 r.1, .int .i64 r.2] t)).cell? ((⟨w.heap.size, 0, none⟩ : Addr).add j) = some u := by
  intro j u hj
  rw [Addr.add_lit, (Blk.new w t #[.int .i64 r.1, .int .i64 r.2]).cell]
  simpa [pv] using hj
end Go.Proofs.YtcehaojohfbfkaaDoor
