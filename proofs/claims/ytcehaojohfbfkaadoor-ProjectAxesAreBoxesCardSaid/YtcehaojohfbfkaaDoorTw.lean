/-
  Two slices of the call's own that grow in one statement, whatever its order. Conditions: none.
-/
import Derived.Test.YtcehaojohfbfkaaDoorP4
namespace Go.Proofs.YtcehaojohfbfkaaDoor
set_option linter.unusedSimpArgs false
set_option linter.unusedVariables false
open Go.RowKit Proj
section
variable {w w' : World} {B : Nat} {e : TypeId} {size : Nat} {v : Value} {n : Nat} {xs : List Value}
theorem keepT (hv : w.ownsRow B e size v n xs) (hg : w.grownBy w' v.ownBlock) {g : Nat} {cs : Array Value} {T : TypeId} {fr : Nat × Nat} (h : w.heap[g]? = some (.cells cs T fr)) (hT : T ≠ e) : w'.heap[g]? = some (.cells cs T fr) := by
  have hlt : g < w.heap.size := (Array.getElem?_eq_some_iff.1 h).1
  rw [hg.block g hlt ?_]
  · exact h
  · intro he
    rcases hv.2 with ⟨rfl, _⟩ | ⟨g', cap, cur, rfl, _, hg', _⟩
    · simp [Value.ownBlock] at he
    · simp only [Value.ownBlock, Option.some.injEq] at he
      subst he
      rw [h] at hg'
      injection hg' with hg'
      injection hg' with _ h2 _
      exact hT h2
theorem keepBlk (hv : w.ownsRow B e size v n xs) (hg : w.grownBy w' v.ownBlock) {g : Nat} {cs : Array Value} {T : TypeId} (h : Blk w g T cs) (hT : T ≠ e) : Blk w' g T cs := keepT hv hg h hT
theorem keepOwn (hv : w.ownsRow B e size v n xs) (hg : w.grownBy w' v.ownBlock) {B2 : Nat} {T : TypeId} {size2 : Nat} {u : Value} {n2 : Nat} {ys : List Value} (h : w.ownsRow B2 T size2 u n2 ys) (hT : T ≠ e) : w'.ownsRow B2 T size2 u n2 ys := by
  refine ⟨h.1, ?_⟩
  rcases h.2 with h2 | ⟨g, cap, cur, hu, hb, hh, r⟩
  · exact .inl h2
  · exact .inr ⟨g, cap, cur, hu, hb, keepT hv hg hh hT, r⟩
end
theorem Rd.blk1 {w : World} {g : Nat} {T : TypeId} {u : Value} (h : Blk w g T #[u]) : Rd w (some ⟨g, 0, none⟩) 1 [u] := Rd.blk (l := [u]) h rfl
theorem blkP {w : World} {g : Nat} {T : TypeId} {r : Int × Int} (h : Blk w g T #[.int .i64 r.1, .int .i64 r.2]) : ∀ j u, (pv [r])[j]? = some u → w.cell? ((⟨g, 0, none⟩ : Addr).add j) = some u := by
  intro j u hj
  rw [Addr.add_lit, h.cell]
  simpa [pv] using hj
section
variable {w : World} {o : Oper} {a : Act} {K : Act → World → Prop} {Q : Exit → Act → World → Prop}
theorem wp_more {s x : Operand} (ho : o.op = .call { callee := .builtin .append, args := #[s, x], argTypes := #[22, 22] }) {B : Nat} {v u : Value} {ls : List (List Int)} {l : List Int} (hs : a.eval s = v) (hown : OwnR w B v ls) (hu : Own w B 3 u (iv l))
    {g c : Nat} (hx : a.eval x = .slice (some ⟨g, 0, none⟩) 1 c) (hr : Blk w g 24 #[u]) (hlen : ls.length ≤ 1000000) (hB : B ≤ w.heap.size)
    (h : ∀ v' w', OwnR w' B v' (ls ++ [l]) → Below B w w' → (∀ (T : TypeId) (size : Nat) (z : Value) (n : Nat) (ys : List Value), T ≠ 24 → w.ownsRow B T size z n ys → w'.ownsRow B T size z n ys) → (∀ (g : Nat) (T : TypeId) (cs : Array Value), T ≠ 24 → Blk w g T cs → Blk w' g T cs) → K (a.put o.dst v') w') : o.wp Tryd.prog a w K Q := by
  obtain ⟨us, h1, h2⟩ := hown
  have h1u : ∀ z ∈ [u], z.oneCell' = true := by
    obtain ⟨A', c', rfl, _⟩ := hu.form
    exact one1 rfl
  refine wp_app ho elemR hs h1 hx (Rd.blk1 hr) h1u (by have := h2.length; omega) hB ?_
  intro v' w' hown' hg hb _
  refine h v' w' ⟨us ++ [u], hown', ?_⟩ hb (fun T size z n ys hT hz => keepOwn h1 hg hz hT) (fun g T cs hT hz => keepBlk h1 hg hz hT)
  refine Rows2.snoc ?_ (h2.map fun u' l' hu' => ?_)
  · exact World.ownsRow.kept hu hg (own_apart h1 hu)
  · exact World.ownsRow.kept hu' hg (own_apart h1 hu')
theorem wp_wide {s x : Operand} (ho : o.op = .call { callee := .builtin .append, args := #[s, x], argTypes := #[29, 29] }) {B : Nat} {v : Value} {rs : List (Int × Int)} {r : Int × Int} (hs : a.eval s = v) (hown : OwnP w B v rs)
    {g c : Nat} (hx : a.eval x = .slice (some ⟨g, 0, none⟩) 1 c) (hr : Blk w g 45 #[.int .i64 r.1, .int .i64 r.2]) (hlen : rs.length ≤ 1000000) (hB : B ≤ w.heap.size)
    (h : ∀ v' w', OwnP w' B v' (rs ++ [r]) → Below B w w' → (∀ (T : TypeId) (size : Nat) (z : Value) (n : Nat) (ys : List Value), T ≠ 45 → w.ownsRow B T size z n ys → w'.ownsRow B T size z n ys) → (∀ (g : Nat) (T : TypeId) (cs : Array Value), T ≠ 45 → Blk w g T cs → Blk w' g T cs) → K (a.put o.dst v') w') : o.wp Tryd.prog a w K Q := by
  obtain ⟨v', w', hrun, h2, h3⟩ := run_appP (w := w) (ty := o.type) (c := c) hown (ys := [r]) (m := 1) rfl (blkP hr) (by omega) hB
  unfold Oper.wp execOp
  simp only [ho, resolve, invoke, builtin, Sem.run_bind, Sem.run_pure, Result.andThen_ok, List.map_toArray, List.map_cons, List.map_nil, hs, hx, hrun]
  exact h v' w' h2 ((Below.refl B w).grown h3 hB fun k hk => ((World.ownsRow.lt hown) k hk).1) (fun T size z n ys hT hz => keepOwn hown h3 hz hT) (fun g T cs hT hz => keepBlk hown h3 hz hT)
/-- The row of one slice that a literal makes. -/
theorem build1_R (u : Value) (h1 : u.oneCell' = true) (W : World) : (Instr.buildSlice 22 1 #[(0, u)]).run Tryd.prog W = .ok (.slice (some ⟨W.heap.size, 0, none⟩) 1 1) (W.alloc (.cells #[u] 24)) := by
  cases u <;> first | (simp [Value.oneCell'] at h1; done) | kernel_rfl
theorem build1_I (u : Value) (h1 : u.oneCell' = true) (W : World) : (Instr.buildSlice 24 1 #[(0, u)]).run Tryd.prog W = .ok (.slice (some ⟨W.heap.size, 0, none⟩) 1 1) (W.alloc (.cells #[u] 3)) := by
  cases u <;> first | (simp [Value.oneCell'] at h1; done) | kernel_rfl
theorem wp_litB {t e : TypeId} {x : Operand} {u : Value} {cs : Array Value} (ho : o.op = .buildSlice t 1 #[(0, x)]) (hx : a.eval x = u)
    (hr : (Instr.buildSlice t 1 #[(0, u)]).run Tryd.prog w = .ok (.slice (some ⟨w.heap.size, 0, none⟩) 1 1) (w.alloc (.cells cs e)))
    (h : ∀ w' g, Blk w' g e cs → Below w.heap.size w w' → K (a.put o.dst (.slice (some ⟨g, 0, none⟩) 1 1)) w') : o.wp Tryd.prog a w K Q := by
  have h2 := h _ _ (Blk.new w e cs) ((Below.refl _ _).alloc (Nat.le_refl _) _)
  unfold Oper.wp execOp
  simp only [ho, List.map_toArray, List.map_cons, List.map_nil, hx, hr, Sem.run_bind, Result.andThen_ok, Sem.run_pure]
  exact h2
end
end Go.Proofs.YtcehaojohfbfkaaDoor
