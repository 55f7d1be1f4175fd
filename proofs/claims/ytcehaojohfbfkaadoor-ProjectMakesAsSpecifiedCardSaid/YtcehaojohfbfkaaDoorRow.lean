/-
  Slices of slices of integers that the call itself makes. Conditions: none.
-/
import Derived.Test.YtcehaojohfbfkaaDoorJn
namespace Go.Proofs.YtcehaojohfbfkaaDoor
set_option linter.unusedSimpArgs false
set_option linter.unusedVariables false
open Go.RowKit Proj
theorem elemR : ElemOk Tryd.prog 22 24 := by
  obtain ⟨i, h1, h2, h3, h4⟩ := info_parts (show (Tryd.prog.info? 24).map (fun i => (i.zero, i.size, i.bytes)) = some (some (.slice none 0 0), 1, 24) by kernel_rfl)
  exact ⟨by kernel_rfl, i, .slice none 0 0, h1, h2, h3, by omega, rfl⟩
/-- Each value is a slice of the call's own that reads as the list beside it. -/
inductive Rows2 (w : World) (B : Nat) : List Value → List (List Int) → Prop where
  | nil : Rows2 w B [] []
  | cons {u : Value} {l : List Int} {us : List Value} {ls : List (List Int)} (h : Own w B 3 u (iv l)) (t : Rows2 w B us ls) : Rows2 w B (u :: us) (l :: ls)
theorem Rows2.length {w : World} {B : Nat} : ∀ {us : List Value} {ls : List (List Int)}, Rows2 w B us ls → us.length = ls.length
  | _, _, .nil => rfl
  | _, _, .cons _ t => by simp [t.length]
theorem Rows2.map {w w' : World} {B B' : Nat} (hm : ∀ u l, Own w B 3 u (iv l) → Own w' B' 3 u (iv l)) : ∀ {us : List Value} {ls : List (List Int)}, Rows2 w B us ls → Rows2 w' B' us ls
  | _, _, .nil => .nil
  | _, _, .cons h t => .cons (hm _ _ h) (t.map hm)
theorem Rows2.snoc {w : World} {B : Nat} {u : Value} {l : List Int} (h : Own w B 3 u (iv l)) : ∀ {us : List Value} {ls : List (List Int)}, Rows2 w B us ls → Rows2 w B (us ++ [u]) (ls ++ [l])
  | _, _, .nil => .cons h .nil
  | _, _, .cons h' t => .cons h' (t.snoc h)
theorem Rows2.get {w : World} {B : Nat} : ∀ {us : List Value} {ls : List (List Int)}, Rows2 w B us ls → ∀ (k : Nat) (h : k < us.length) (h' : k < ls.length), Own w B 3 us[k] (iv ls[k])
  | _, _, .cons h t, 0, _, _ => h
  | _, _, .cons h t, k + 1, h1, h2 => t.get k (by simpa using h1) (by simpa using h2)
theorem Rows2.oneCell {w : World} {B : Nat} : ∀ {us : List Value} {ls : List (List Int)}, Rows2 w B us ls → ∀ u ∈ us, u.oneCell' = true
  | _, _, .nil, u, hu => by simp at hu
  | _, _, .cons h t, u, hu => by
    rcases List.mem_cons.1 hu with rfl | hu
    · obtain ⟨A, c, rfl, _⟩ := h.form; rfl
    · exact t.oneCell u hu
/-- A slice of slices of the call's own. -/
def OwnR (w : World) (B : Nat) (v : Value) (ls : List (List Int)) : Prop := ∃ us, Own w B 24 v us ∧ Rows2 w B us ls
section
variable {w w' : World} {B : Nat} {v : Value} {ls : List (List Int)}
theorem OwnR.nil (w : World) (B : Nat) : OwnR w B (.slice none 0 0) [] := ⟨[], Own.nil _ _ _, .nil⟩
theorem OwnR.below (h : OwnR w B v ls) (hb : Below w.heap.size w w') : OwnR w' B v ls := by
  obtain ⟨us, h1, h2⟩ := h
  exact ⟨us, h1.below hb, h2.map fun u l hu => hu.below hb⟩
theorem OwnR.alloc (h : OwnR w B v ls) (o : Obj) : OwnR (w.alloc o) B v ls := h.below ((Below.refl _ _).alloc (Nat.le_refl _) _)
theorem OwnR.lower {B' : Nat} (h : OwnR w B v ls) (hB : B' ≤ B) : OwnR w B' v ls := by
  obtain ⟨us, h1, h2⟩ := h
  exact ⟨us, h1.lower hB, h2.map fun u l hu => hu.lower hB⟩
theorem OwnR.form (h : OwnR w B v ls) : ∃ A c, v = .slice A ls.length c ∧ ls.length ≤ c ∧ c ≤ maxLen ∧ RdR w A ls.length ls := by
  obtain ⟨us, h1, h2⟩ := h
  obtain ⟨A, c, rfl, hc, hm, hr⟩ := h1.form
  have hl := h2.length
  refine ⟨A, c, by rw [hl], by omega, hm, rfl, fun k hk => ?_⟩
  obtain ⟨ad, rfl, hcell⟩ := hr.get (k := k) (by omega)
  obtain ⟨A', c', hv, hc', hm', hr'⟩ := (h2.get k (by omega) hk).form
  rw [hv] at hcell
  simp only [length_iv] at hcell hc' hr'
  exact ⟨ad, A', c', rfl, hcell, hc', hm', hr'⟩
theorem own_apart {u : Value} {us xs : List Value} (h : Own w B 24 v us) (hu : Own w B 3 u xs) : u.ownBlock = none ∨ u.ownBlock ≠ v.ownBlock := by
  rcases hu.2 with ⟨rfl, _⟩ | ⟨g, cap, cur, rfl, _, hg, _⟩
  · exact .inl rfl
  · rcases h.2 with ⟨rfl, _⟩ | ⟨g', cap', cur', rfl, _, hg', _⟩
    · exact .inr (by simp [Value.ownBlock])
    · refine .inr fun e => ?_
      simp only [Value.ownBlock, Option.some.injEq] at e
      subst e
      rw [hg] at hg'
      injection hg' with hg'
      injection hg' with _ he _
      exact absurd he (by decide)
end
/-- append of one slice of the call's own. -/
theorem wpList_appR {w : World} {ops : Array Oper} {rest : List Oper} {o : Oper} {a : Act} {Q : Exit → Act → World → Prop} (hgd : o.guard = none) {s x : Operand}
    (ho : o.op = .call { callee := .builtin .append, args := #[s, x], argTypes := #[22, 22] }) {B : Nat} {v u : Value} {ls : List (List Int)} {l : List Int} (hs : a.eval s = v) (hown : OwnR w B v ls) (hu : Own w B 3 u (iv l))
    {A : Option Addr} {c : Nat} (hx : a.eval x = .slice A 1 c) (hr : Rd w A 1 [u]) (hlen : ls.length ≤ 1000000) (hB : B ≤ w.heap.size)
    (h : ∀ v' w', OwnR w' B v' (ls ++ [l]) → Below B w w' → wpList Tryd.prog ops Q rest (a.put o.dst v') w') : wpList Tryd.prog ops Q (o :: rest) a w := by
  obtain ⟨us, h1, h2⟩ := hown
  have h1u : ∀ z ∈ [u], z.oneCell' = true := by
    obtain ⟨A', c', rfl, _⟩ := hu.form
    exact one1 rfl
  refine wpList_app hgd ho elemR hs h1 hx hr h1u (by have := h2.length; omega) hB ?_
  intro v' w' hown' hg hb _
  refine h v' w' ⟨us ++ [u], hown', ?_⟩ hb
  refine Rows2.snoc ?_ (h2.map fun u' l' hu' => ?_)
  · exact World.ownsRow.kept hu hg (own_apart h1 hu)
  · exact World.ownsRow.kept hu' hg (own_apart h1 hu')
theorem litRow (w : World) (cs : Array Value) (t : TypeId) : Rd (w.alloc (.cells cs t)) (some ⟨w.heap.size, 0, none⟩) cs.size cs.toList := by
  refine ⟨by simp, fun k u hk => ⟨_, rfl, ?_⟩⟩
  rw [Addr.add_lit, (Blk.new w t cs).cell]
  simpa using hk
end Go.Proofs.YtcehaojohfbfkaaDoor
