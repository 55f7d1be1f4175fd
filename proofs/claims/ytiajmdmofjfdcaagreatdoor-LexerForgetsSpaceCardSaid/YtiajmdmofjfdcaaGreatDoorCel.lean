/-
  Slices whose elements take k cells each: loads, append, elements. Conditions: none.
-/
import Derived.Test.YtiajmdmofjfdcaaGreatDoorLib
import Derived.ArgAppend
namespace Go.Proofs.YtiajmdmofjfdcaaGreatDoor
set_option linter.unusedSimpArgs false
set_option linter.unusedVariables false
open Go.RowKit
/-- What a slice's type brings to append: its element takes k cells. -/
structure ElemK (P : Program) (t e : TypeId) (k : Nat) : Prop where
  slice : P.underlying t = some (.slice e)
  info : ∃ i z, P.info? e = some i ∧ i.zero = some z ∧ i.size = k ∧ i.bytes ≤ 128 ∧ z.cells.size = k
  pos : 0 < k
section
variable {P : Program} {w : World}
theorem rd_none0 {n : Nat} {xs : List Value} (hr : Rd w none n xs) : n = 0 ∧ xs = [] := by
  rcases Nat.eq_zero_or_pos n with h | h
  · exact ⟨h, List.eq_nil_of_length_eq_zero (by rw [hr.len, h])⟩
  · obtain ⟨ad, h0, _⟩ := hr.get h; cases h0
theorem run_appK {t e ty : TypeId} {k : Nat} (hE : ElemK P t e k) {B : Nat} {v : Value} {n : Nat} {xs : List Value} (hown : w.ownsRow B e k v n xs) {A : Option Addr} {m c : Nat} {ys : List Value} (hr : Rd w A (m * k) ys)
    (h1 : ∀ u ∈ ys, u.oneCell' = true) (hlen : n + m ≤ 1099511627776) (hB : B ≤ w.heap.size) :
    ∃ v' w', (Builtin.append_ #[t, t] ty #[v, .slice A m c]).run P w = .ok v' w' ∧ w'.ownsRow B e k v' (n + m) (xs ++ ys) ∧ w.grownBy w' v.ownBlock ∧ (v'.ownBlock = v.ownBlock ∨ v'.ownBlock = some w.heap.size) := by
  obtain ⟨i, z, hi, hz, hs, hb, hzs⟩ := hE.info
  rcases Nat.eq_zero_or_pos m with rfl | hm
  · have hy : ys = [] := List.eq_nil_of_length_eq_zero (by rw [hr.len]; simp)
    subst hy
    refine ⟨v, w, ?_, by simpa using hown, World.grownBy.refl w _, .inl rfl⟩
    rcases hown.2 with ⟨rfl, _⟩ | ⟨g, cap, cur, rfl, _, _, hnc, _⟩
    · rcases A with _ | ad
      · simp [Builtin.append_, run_underlying hE.slice, sizeOf, typeInfo, hi, Builtin.lenOf, Builtin.firstCells]
      · simp [Builtin.append_, run_underlying hE.slice, sizeOf, typeInfo, hi, Builtin.lenOf, Builtin.firstCells, loadCells, loadCellsFrom]
    · rcases A with _ | ad
      · simp [Builtin.append_, run_underlying hE.slice, sizeOf, typeInfo, hi, Builtin.lenOf, Builtin.firstCells, hnc, storeCells]
      · simp [Builtin.append_, run_underlying hE.slice, sizeOf, typeInfo, hi, Builtin.lenOf, Builtin.firstCells, loadCells, loadCellsFrom, hnc, storeCells]
  · obtain ⟨ad, rfl, _⟩ := hr.get (Nat.mul_pos hm hE.pos)
    have hcells : ∀ j u, ys[j]? = some u → w.cell? (ad.add j) = some u := by
      intro j u hu
      obtain ⟨ad', e', hc⟩ := hr.at_ j u hu
      injection e' with e'
      subst e'
      exact hc
    have hmul : (n + m) * i.bytes ≤ 1099511627776 * 128 := Nat.mul_le_mul hlen hb
    obtain ⟨v', w', hrun, h2, h3, _, h5⟩ := run_append_own_at (P := P) w B t ty e i z k i.bytes hE.slice hi hz hs rfl hzs hE.pos v n xs hown ad m c ys hr.len hcells h1
      (by simp only [maxLen]; omega) (by omega) hB
    exact ⟨v', w', hrun, h2, h3, h5⟩
theorem wp_appK {o : Oper} {a : Act} {K : Act → World → Prop} {Q : Exit → Act → World → Prop} {s x : Operand} {t e : TypeId} {k : Nat}
    (ho : o.op = .call { callee := .builtin .append, args := #[s, x], argTypes := #[t, t] }) (hE : ElemK P t e k) {B : Nat} {v : Value} {n : Nat} {xs : List Value} (hs : a.eval s = v) (hown : w.ownsRow B e k v n xs)
    {A : Option Addr} {m c : Nat} {ys : List Value} (hx : a.eval x = .slice A m c) (hr : Rd w A (m * k) ys) (h1 : ∀ u ∈ ys, u.oneCell' = true) (hlen : n + m ≤ 1099511627776) (hB : B ≤ w.heap.size)
    (h : ∀ v' w', w'.ownsRow B e k v' (n + m) (xs ++ ys) → w.grownBy w' v.ownBlock → Below B w w' → K (a.put o.dst v') w') : o.wp P a w K Q := by
  obtain ⟨v', w', hrun, h2, h3, _⟩ := run_appK (P := P) (w := w) (ty := o.type) (c := c) hE hown hr h1 hlen hB
  unfold Oper.wp execOp
  simp only [ho, resolve, invoke, builtin, Sem.run_bind, Sem.run_pure, Result.andThen_ok, List.map_toArray, List.map_cons, List.map_nil, hs, hx, hrun]
  exact h v' w' h2 h3 ((Below.refl B w).grown h3 hB fun k hk => ((World.ownsRow.lt hown) k hk).1)
theorem wpList_appK {ops : Array Oper} {rest : List Oper} {o : Oper} {a : Act} {Q : Exit → Act → World → Prop} (hgd : o.guard = none) {s x : Operand} {t e : TypeId} {k : Nat}
    (ho : o.op = .call { callee := .builtin .append, args := #[s, x], argTypes := #[t, t] }) (hE : ElemK P t e k) {B : Nat} {v : Value} {n : Nat} {xs : List Value} (hs : a.eval s = v) (hown : w.ownsRow B e k v n xs)
    {A : Option Addr} {m c : Nat} {ys : List Value} (hx : a.eval x = .slice A m c) (hr : Rd w A (m * k) ys) (h1 : ∀ u ∈ ys, u.oneCell' = true) (hlen : n + m ≤ 1099511627776) (hB : B ≤ w.heap.size)
    (h : ∀ v' w', w'.ownsRow B e k v' (n + m) (xs ++ ys) → w.grownBy w' v.ownBlock → Below B w w' → wpList P ops Q rest (a.put o.dst v') w') : wpList P ops Q (o :: rest) a w :=
  wpList_plain hgd fun _ hK => wp_appK ho hE hs hown hx hr h1 hlen hB fun v' w' h2 h3 h4 => hK _ _ (h v' w' h2 h3 h4)
/-- append onto a slice that has no room, of whoever's. -/
theorem run_appF {t e ty : TypeId} {k : Nat} (hE : ElemK P t e k) {A : Option Addr} {n : Nat} {xs : List Value} (hx : Rd w A (n * k) xs) {C : Option Addr} {m c : Nat} {ys : List Value} (hr : Rd w C (m * k) ys)
    (h1 : ∀ u ∈ ys, u.oneCell' = true) (hm : 0 < m) (hlen : n + m ≤ 1099511627776) :
    ∃ v' w', (Builtin.append_ #[t, t] ty #[.slice A n n, .slice C m c]).run P w = .ok v' w' ∧ w'.ownsRow w.heap.size e k v' (n + m) (xs ++ ys) ∧ w.grownBy w' none := by
  obtain ⟨i, z, hi, hz, hs, hb, hzs⟩ := hE.info
  have hmul : (n + m) * i.bytes ≤ 1099511627776 * 128 := Nat.mul_le_mul hlen hb
  obtain ⟨ad, rfl, _⟩ := hr.get (Nat.mul_pos hm hE.pos)
  have hcells : ∀ j u, ys[j]? = some u → w.cell? (ad.add j) = some u := by
    intro j u hu
    obtain ⟨ad', e', hc⟩ := hr.at_ j u hu
    injection e' with e'
    subst e'
    exact hc
  rcases A with _ | b
  · obtain ⟨h0, rfl⟩ := rd_none0 hx
    have hn : n = 0 := by
      rcases Nat.mul_eq_zero.1 h0 with h | h
      · exact h
      · have := hE.pos; omega
    subst hn
    obtain ⟨v', w', hrun, h2, h3, _, h5⟩ := run_append_own_at (P := P) w w.heap.size t ty e i z k i.bytes hE.slice hi hz hs rfl hzs hE.pos _ 0 [] (World.ownsRow_nil w w.heap.size e k) ad m c ys hr.len hcells h1
      (by simp only [maxLen]; omega) (by omega) (Nat.le_refl _)
    exact ⟨v', w', hrun, h2, h3⟩
  · have hold : ∀ j u, xs[j]? = some u → w.cell? (b.add j) = some u := by
      intro j u hu
      obtain ⟨ad', e', hc⟩ := hx.at_ j u hu
      injection e' with e'
      subst e'
      exact hc
    exact run_append_arg_grows (P := P) w t ty e i z k i.bytes hE.slice hi hz hs rfl hzs hE.pos b n n xs hx.len hold ad m c ys hr.len hcells (by omega) (by simp only [maxLen]; omega) (by omega)
theorem wp_appF {o : Oper} {a : Act} {K : Act → World → Prop} {Q : Exit → Act → World → Prop} {s x : Operand} {t e : TypeId} {k : Nat}
    (ho : o.op = .call { callee := .builtin .append, args := #[s, x], argTypes := #[t, t] }) (hE : ElemK P t e k) {A : Option Addr} {n : Nat} {xs : List Value} (hs : a.eval s = .slice A n n) (ha : Rd w A (n * k) xs)
    {C : Option Addr} {m c : Nat} {ys : List Value} (hx : a.eval x = .slice C m c) (hr : Rd w C (m * k) ys) (h1 : ∀ u ∈ ys, u.oneCell' = true) (hm : 0 < m) (hlen : n + m ≤ 1099511627776)
    (h : ∀ v' w', w'.ownsRow w.heap.size e k v' (n + m) (xs ++ ys) → Below w.heap.size w w' → K (a.put o.dst v') w') : o.wp P a w K Q := by
  obtain ⟨v', w', hrun, h2, h3⟩ := run_appF (P := P) (w := w) (ty := o.type) (c := c) hE ha hr h1 hm hlen
  unfold Oper.wp execOp
  simp only [ho, resolve, invoke, builtin, Sem.run_bind, Sem.run_pure, Result.andThen_ok, List.map_toArray, List.map_cons, List.map_nil, hs, hx, hrun]
  exact h v' w' h2 ((Below.refl _ w).grown h3 (Nat.le_refl _) fun k hk => by cases hk)
theorem wpList_appF {ops : Array Oper} {rest : List Oper} {o : Oper} {a : Act} {Q : Exit → Act → World → Prop} (hgd : o.guard = none) {s x : Operand} {t e : TypeId} {k : Nat}
    (ho : o.op = .call { callee := .builtin .append, args := #[s, x], argTypes := #[t, t] }) (hE : ElemK P t e k) {A : Option Addr} {n : Nat} {xs : List Value} (hs : a.eval s = .slice A n n) (ha : Rd w A (n * k) xs)
    {C : Option Addr} {m c : Nat} {ys : List Value} (hx : a.eval x = .slice C m c) (hr : Rd w C (m * k) ys) (h1 : ∀ u ∈ ys, u.oneCell' = true) (hm : 0 < m) (hlen : n + m ≤ 1099511627776)
    (h : ∀ v' w', w'.ownsRow w.heap.size e k v' (n + m) (xs ++ ys) → Below w.heap.size w w' → wpList P ops Q rest (a.put o.dst v') w') : wpList P ops Q (o :: rest) a w :=
  wpList_plain hgd fun _ hK => wp_appF ho hE hs ha hx hr h1 hm hlen fun v' w' h2 h3 => hK _ _ (h v' w' h2 h3)
/-! ### loads -/
theorem isAgg_run {ty : TypeId} (hu : (P.underlying ty).map isAggDesc = some true) (w : World) : (isAgg ty).run P w = .ok true w := by
  cases h : P.underlying ty with
  | none => rw [h] at hu; cases hu
  | some d =>
    rw [h] at hu
    unfold isAgg
    rw [Sem.run_bind, run_underlying h w]
    cases d <;> simp_all [isAggDesc]
theorem sizeOf_run {ty : TypeId} {n : Nat} (hi : (P.info? ty).map (·.size) = some n) (w : World) : (sizeOf ty).run P w = .ok n w := by
  cases hq : P.info? ty with
  | none => simp [hq] at hi
  | some inf =>
    have hsz : inf.size = n := by simpa [hq] using hi
    simp [sizeOf, typeInfo, hq, hsz]
theorem run_loadK {p : Addr} {ty : TypeId} {us : List Value} (hu : (P.underlying ty).map isAggDesc = some true) (hi : (P.info? ty).map (·.size) = some us.length) (hc : ∀ j u, us[j]? = some u → w.cell? (p.add j) = some u) :
    (loadVar ty p).run P w = .ok (.agg us.toArray) w := by
  have hl := run_loadCells_list (P := P) (w := w) p us hc
  unfold loadVar
  rw [Sem.run_bind, isAgg_run hu, Result.andThen_ok]
  simp [Sem.run_bind, sizeOf_run hi, hl]
theorem wp_loadK {o : Oper} {a : Act} {K : Act → World → Prop} {Q : Exit → Act → World → Prop} {t : TypeId} {x : Operand} (ho : o.op = .load t x) {p : Addr} (ha : a.eval x = .pointer (some p)) {us : List Value}
    (hu : (P.underlying t).map isAggDesc = some true) (hi : (P.info? t).map (·.size) = some us.length) (hc : ∀ j u, us[j]? = some u → w.cell? (p.add j) = some u) (h : K (a.put o.dst (.agg us.toArray)) w) : o.wp P a w K Q := by
  unfold Oper.wp execOp
  simp only [ho, ha, Instr.loadAt, Instr.sureAddr, Sem.run_bind, Sem.run_pure, Result.andThen_ok, run_loadK (w := w) hu hi hc]
  exact h
theorem wpList_loadK {ops : Array Oper} {rest : List Oper} {o : Oper} {a : Act} {Q : Exit → Act → World → Prop} (hgd : o.guard = none) {t : TypeId} {x : Operand} (ho : o.op = .load t x) {p : Addr} (ha : a.eval x = .pointer (some p)) {us : List Value}
    (hu : (P.underlying t).map isAggDesc = some true) (hi : (P.info? t).map (·.size) = some us.length) (hc : ∀ j u, us[j]? = some u → w.cell? (p.add j) = some u) (h : wpList P ops Q rest (a.put o.dst (.agg us.toArray)) w) : wpList P ops Q (o :: rest) a w :=
  wpList_plain hgd fun K hK => wp_loadK ho ha hu hi hc (hK _ _ h)
theorem yields_loadK {ops : Array Oper} {w0 : World} {o : Oper} {a : Act} {t : TypeId} {x : Operand} {p : Addr} {us : List Value} (ho : o.op = .load t x) (hg : o.guard = none) (ha : a.eval x = .pointer (some p))
    (hu : (P.underlying t).map isAggDesc = some true) (hi : (P.info? t).map (·.size) = some us.length) (hc : ∀ j u, us[j]? = some u → w0.cell? (p.add j) = some u) : YieldsIf P ops (Below w0.heap.size w0) o (.agg us.toArray) a := by
  refine .inl ⟨by simp [Region.wanted, hg], fun w hS => ?_⟩
  unfold execOp
  simp only [ho, ha, Instr.loadAt, Instr.sureAddr, Sem.run_bind, Sem.run_pure, Result.andThen_ok, run_loadK (w := w) hu hi (fun j u h => cell_later hS (hc j u h))]
end
/-! ### elements -/
section
variable {α : Type} {f : α → List Value} {k : Nat}
theorem length_fl (hf : ∀ x, (f x).length = k) : ∀ l : List α, (l.flatMap f).length = l.length * k
  | [] => by simp
  | x :: l => by rw [List.flatMap_cons, List.length_append, hf, length_fl hf l, List.length_cons, Nat.add_mul]; omega
theorem fl_get (hf : ∀ x, (f x).length = k) : ∀ (l : List α) (i : Nat) (h : i < l.length) (j : Nat), j < k → (l.flatMap f)[i * k + j]? = (f l[i])[j]?
  | x :: l, 0, _, j, hj => by simp only [List.flatMap_cons, Nat.zero_mul, Nat.zero_add, List.getElem_cons_zero]; rw [List.getElem?_append_left (by rw [hf]; exact hj)]
  | x :: l, i + 1, h, j, hj => by
    have := fl_get hf l i (by simpa using h) j hj
    have e : (i + 1) * k = k + i * k := by rw [Nat.add_mul]; omega
    simp only [List.flatMap_cons, List.getElem_cons_succ]
    rw [List.getElem?_append_right (by rw [hf, e]; omega), hf, show (i + 1) * k + j - k = i * k + j by rw [e]; omega]
    exact this
theorem fl_take (hf : ∀ x, (f x).length = k) : ∀ (l : List α) (i : Nat), i ≤ l.length → (l.flatMap f).take (i * k) = (l.take i).flatMap f
  | l, 0, _ => by simp
  | x :: l, i + 1, h => by
    have := fl_take hf l i (by simpa using h)
    have e : (i + 1) * k = k + i * k := by rw [Nat.add_mul]; omega
    rw [List.take_succ_cons, List.flatMap_cons, List.flatMap_cons, List.take_append, hf, e, show k + i * k - k = i * k by omega, this, List.take_of_length_le (by rw [hf]; omega)]
theorem fl_drop (hf : ∀ x, (f x).length = k) : ∀ (l : List α) (i : Nat), i ≤ l.length → (l.flatMap f).drop (i * k) = (l.drop i).flatMap f
  | l, 0, _ => by simp
  | x :: l, i + 1, h => by
    have := fl_drop hf l i (by simpa using h)
    have e : (i + 1) * k = k + i * k := by rw [Nat.add_mul]; omega
    rw [List.drop_succ_cons, List.flatMap_cons, List.drop_append, hf, e, show k + i * k - k = i * k by omega, this, List.drop_of_length_le (by rw [hf]; omega), List.nil_append]
theorem fl_set (hf : ∀ x, (f x).length = k) : ∀ (l : List α) (i : Nat) (h : i < l.length) (j : Nat) (u : Value) (y : α), j < k → (f l[i]).set j u = f y → (l.flatMap f).set (i * k + j) u = (l.set i y).flatMap f
  | x :: l, 0, _, j, u, y, hj, e => by
    simp only [List.flatMap_cons, Nat.zero_mul, Nat.zero_add, List.set_cons_zero]
    rw [List.set_append_left _ _ (by rw [hf]; exact hj)]
    congr 1
  | x :: l, i + 1, h, j, u, y, hj, e => by
    have := fl_set hf l i (by simpa using h) j u y hj (by simpa using e)
    have e2 : (i + 1) * k = k + i * k := by rw [Nat.add_mul]; omega
    simp only [List.flatMap_cons, List.set_cons_succ]
    rw [List.set_append_right _ _ (by rw [hf, e2]; omega), hf, show (i + 1) * k + j - k = i * k + j by rw [e2]; omega, this]
theorem Rd.elem {w : World} {A : Option Addr} {n : Nat} (hf : ∀ x, (f x).length = k) (hk : 0 < k) {l : List α} (h : Rd w A (n * k) (l.flatMap f)) {i : Nat} (hi : i < l.length) :
    ∃ ad, A = some ad ∧ ∀ j u, (f l[i])[j]? = some u → w.cell? ((ad.add (i * k)).add j) = some u := by
  have h0 : (l.flatMap f)[i * k + 0]? = some ((f l[i])[0]'(by rw [hf]; exact hk)) := by rw [fl_get hf l i hi 0 hk]; simp
  obtain ⟨ad, e, _⟩ := h.at_ _ _ h0
  refine ⟨ad, e, fun j u hj => ?_⟩
  have hjk : j < k := by have := (List.getElem?_eq_some_iff.1 hj).1; rw [hf] at this; exact this
  obtain ⟨ad', e', hc⟩ := h.at_ (i * k + j) u (by rw [fl_get hf l i hi j hjk]; exact hj)
  rw [e] at e'
  injection e' with e'
  subst e'
  rw [add_of_add]
  exact hc
end
end Go.Proofs.YtiajmdmofjfdcaaGreatDoor
