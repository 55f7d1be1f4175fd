/-
  The law ProjectAxesAreBoxes, walked. Condition: the table of constants reads as the program lays it.
-/
import Derived.Test.YtcehaojohfbfkaaDoorTw
namespace Go.Proofs.YtcehaojohfbfkaaDoor
set_option linter.unusedSimpArgs false
set_option linter.unusedVariables false
open Go.RowKit Proj
/-- Axes and the nearest point: two slices of the call's own, no axis in the point's row. -/
def Axes (w : World) (B : Nat) (va vn : Value) (ls : List (List Int)) (xs : List Int) : Prop :=
  ∃ us, Own w B 24 va us ∧ Rows2 w B us ls ∧ Own w B 3 vn (iv xs) ∧ ∀ u ∈ us, u.ownBlock = none ∨ u.ownBlock ≠ vn.ownBlock
section
variable {w w' : World} {B : Nat} {va vn : Value} {ls : List (List Int)} {xs : List Int}
theorem Axes.nil (w : World) (B : Nat) : Axes w B (.slice none 0 0) (.slice none 0 0) [] [] := ⟨[], Own.nil _ _ _, .nil, Own.nil _ _ _, by simp⟩
theorem Axes.below (h : Axes w B va vn ls xs) (hb : Below w.heap.size w w') : Axes w' B va vn ls xs := by
  obtain ⟨us, h1, h2, h3, h4⟩ := h
  exact ⟨us, h1.below hb, h2.map fun u l hu => hu.below hb, h3.below hb, h4⟩
theorem Axes.rows (h : Axes w B va vn ls xs) : OwnR w B va ls := by obtain ⟨us, h1, h2, _, _⟩ := h; exact ⟨us, h1, h2⟩
theorem Axes.point (h : Axes w B va vn ls xs) : Own w B 3 vn (iv xs) := h.choose_spec.2.2.1
theorem Axes.lens (h : Axes w B va vn ls xs) : va = va ∧ True := ⟨rfl, trivial⟩
end
section
variable {w : World} {o : Oper} {a : Act} {K : Act → World → Prop} {Q : Exit → Act → World → Prop}
theorem wp_axis {s x : Operand} (ho : o.op = .call { callee := .builtin .append, args := #[s, x], argTypes := #[22, 22] }) {B : Nat} {va vn u : Value} {ls : List (List Int)} {xs l : List Int} (hs : a.eval s = va) (hown : Axes w B va vn ls xs) (hu : Own w B 3 u (iv l))
    (hap : u.ownBlock = none ∨ u.ownBlock ≠ vn.ownBlock) {g c : Nat} (hx : a.eval x = .slice (some ⟨g, 0, none⟩) 1 c) (hr : Blk w g 24 #[u]) (hlen : ls.length ≤ 1000000) (hB : B ≤ w.heap.size)
    (h : ∀ v' w', Axes w' B v' vn (ls ++ [l]) xs → Below B w w' → (∀ (g : Nat) (T : TypeId) (cs : Array Value), T ≠ 24 → Blk w g T cs → Blk w' g T cs) → K (a.put o.dst v') w') : o.wp Tryd.prog a w K Q := by
  obtain ⟨us, h1, h2, h3, h4⟩ := hown
  have h1u : ∀ z ∈ [u], z.oneCell' = true := by
    obtain ⟨A', c', rfl, _⟩ := hu.form
    exact one1 rfl
  refine wp_app ho elemR hs h1 hx (Rd.blk1 hr) h1u (by have := h2.length; omega) hB ?_
  intro v' w' hown' hg hb _
  refine h v' w' ⟨us ++ [u], hown', ?_, keepOwn h1 hg h3 (by decide), ?_⟩ hb (fun g T cs hT hz => keepBlk h1 hg hz hT)
  · refine Rows2.snoc ?_ (h2.map fun u' l' hu' => ?_)
    · exact World.ownsRow.kept hu hg (own_apart h1 hu)
    · exact World.ownsRow.kept hu' hg (own_apart h1 hu')
  · intro z hz
    rcases List.mem_append.1 hz with hz | hz
    · exact h4 z hz
    · simp at hz; subst hz; exact hap
theorem wp_point {s x : Operand} (ho : o.op = .call { callee := .builtin .append, args := #[s, x], argTypes := #[24, 24] }) {B : Nat} {va vn : Value} {ls : List (List Int)} {xs : List Int} {y : Int} (hs : a.eval s = vn) (hown : Axes w B va vn ls xs)
    {g c : Nat} (hx : a.eval x = .slice (some ⟨g, 0, none⟩) 1 c) (hr : Blk w g 3 #[.int .i64 y]) (hlen : xs.length ≤ 1000000) (hB : B ≤ w.heap.size)
    (h : ∀ v' w', Axes w' B va v' ls (xs ++ [y]) → Below B w w' → (∀ (g : Nat) (T : TypeId) (cs : Array Value), T ≠ 3 → Blk w g T cs → Blk w' g T cs) →
      (∀ u l, Own w B 3 u (iv l) → (u.ownBlock = none ∨ u.ownBlock ≠ vn.ownBlock) → Own w' B 3 u (iv l) ∧ (u.ownBlock = none ∨ u.ownBlock ≠ v'.ownBlock)) → K (a.put o.dst v') w') : o.wp Tryd.prog a w K Q := by
  obtain ⟨us, h1, h2, h3, h4⟩ := hown
  refine wp_app ho elemI hs h3 hx (Rd.blk1 hr) (one1 rfl) (by rw [length_iv]; omega) hB ?_
  intro v' w' hown' hg hb hloc
  have hk : ∀ u l, Own w B 3 u (iv l) → (u.ownBlock = none ∨ u.ownBlock ≠ vn.ownBlock) → Own w' B 3 u (iv l) ∧ (u.ownBlock = none ∨ u.ownBlock ≠ v'.ownBlock) := by
    intro u l hu hap
    refine ⟨World.ownsRow.kept hu hg hap, ?_⟩
    rcases hap with hap | hap
    · exact .inl hap
    · rcases hloc with e | e
      · rw [e]; exact .inr hap
      · rw [e]
        refine .inr fun hc => ?_
        have := (World.ownsRow.lt hu _ hc).2
        omega
  refine h v' w' ⟨us, keepOwn h3 hg h1 (by decide), ?_, by rw [iv_app]; exact hown', ?_⟩ hb (fun g T cs hT hz => keepBlk h3 hg hz hT) hk
  · have hrow : ∀ {us : List Value} {ls : List (List Int)}, Rows2 w B us ls → (∀ u ∈ us, u.ownBlock = none ∨ u.ownBlock ≠ vn.ownBlock) → Rows2 w' B us ls := by
      intro us ls hR
      induction hR with
      | nil => exact fun _ => .nil
      | cons hh ht ih => exact fun ha => .cons (hk _ _ hh (ha _ (by simp))).1 (ih fun u hu => ha u (by simp [hu]))
    exact hrow h2 h4
  · have hrow2 : ∀ {us : List Value} {ls : List (List Int)}, Rows2 w B us ls → (∀ u ∈ us, u.ownBlock = none ∨ u.ownBlock ≠ vn.ownBlock) → ∀ u ∈ us, u.ownBlock = none ∨ u.ownBlock ≠ v'.ownBlock := by
      intro us ls hR
      induction hR with
      | nil => exact fun _ u hu => by simp at hu
      | cons hh ht ih =>
        intro ha u hu
        rcases List.mem_cons.1 hu with rfl | hu
        · exact (hk _ _ hh (ha _ (by simp))).2
        · exact ih (fun u hu => ha u (by simp [hu])) u hu
    exact hrow2 h2 h4
end
def axesTo (n k : Nat) : List (List Int) := (List.range k).map (axis n)
theorem axesTo_succ (n k : Nat) : axesTo n (k + 1) = axesTo n k ++ [axis n k] := by simp [axesTo, List.range_succ]
theorem axesTo_all (n : Nat) : axesTo n n = axes n := rfl
theorem near_step (rs : List (Int × Int)) (q : List Int) (k : Nat) (h1 : k < rs.length) (h2 : k < q.length) (hl : rs.length = q.length) : (near rs q).take (k + 1) = (near rs q).take k ++ [min (max q[k] rs[k].1) rs[k].2] := by
  have hn : k < (near rs q).length := by rw [length_near rs q hl]; exact h2
  rw [List.take_succ_eq_append_getElem hn, getElem_near rs q k hn h1 h2]
theorem near_small (rs : List (Int × Int)) (q : List Int) (hl : rs.length = q.length) (hR : ∀ r ∈ rs, r.1 ≤ r.2 ∧ -1000 ≤ r.1 ∧ r.2 ≤ 1000) : ∀ x ∈ near rs q, ab x ≤ 1000 := by
  intro x hx
  obtain ⟨i, hi, rfl⟩ := List.getElem_of_mem hx
  have h2 : i < q.length := by rw [length_near rs q hl] at hi; exact hi
  rw [getElem_near rs q i hi (by omega) h2]
  have := hR _ (List.getElem_mem (show i < rs.length by omega))
  unfold ab; omega
theorem linesOk_axes (n : Nat) : LinesOk (axes n) n := by
  constructor
  · intro l hl
    simp only [axes, List.mem_map] at hl
    obtain ⟨k, _, rfl⟩ := hl
    simp [axis]
  · intro l hl x hx
    simp only [axes, List.mem_map] at hl
    obtain ⟨k, _, rfl⟩ := hl
    unfold axis at hx
    rcases List.mem_or_eq_of_mem_set hx with hx | rfl
    · rw [List.mem_replicate] at hx
      rw [hx.2]; decide
    · decide
theorem some0_axes (n : Nat) : ∀ l ∈ axes n, some0 l := by
  intro l hl
  simp only [axes, List.mem_map, List.mem_range] at hl
  obtain ⟨k, hk, rfl⟩ := hl
  refine ⟨1, ?_, by decide⟩
  unfold axis
  rw [List.mem_iff_getElem]
  exact ⟨k, by simpa using hk, by simp⟩
end Go.Proofs.YtcehaojohfbfkaaDoor
