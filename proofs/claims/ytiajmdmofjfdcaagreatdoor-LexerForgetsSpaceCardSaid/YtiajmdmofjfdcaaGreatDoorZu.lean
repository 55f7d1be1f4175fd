/-
  Plain: where tokens stand. Small laws for the walks of the lexer's laws. Conditions: none.
-/
import Derived.Test.YtiajmdmofjfdcaaGreatDoorZp
import Derived.Laws.Concat
namespace Go.Proofs.YtiajmdmofjfdcaaGreatDoor.Lexr
set_option linter.unusedSimpArgs false
set_option linter.unusedVariables false
theorem toks_errAt : ∀ (f a : Nat) (l : List UInt8) (p : Int × Int), toks f a l = .error p → (a : Int) ≤ p.1 ∧ p.1 ≤ a + l.length
  | 0, _, _, _, h => by exact absurd h (by simp [toks])
  | _ + 1, _, [], _, h => by exact absurd h (by simp [toks])
  | f + 1, a, b :: l, p, h => by
    unfold toks at h
    cases hn : nextT b l with
    | error e =>
      rw [hn] at h
      injection h with h
      subst h
      exact ⟨Int.le_refl _, by simp; omega⟩
    | ok r =>
      rw [hn] at h
      simp only at h
      have hl := nextT_len hn
      cases ht : toks f (a + r.2.2 + skM false ((b :: l).drop r.2.2)) (((b :: l).drop r.2.2).drop (skM false ((b :: l).drop r.2.2))) with
      | error q =>
        rw [ht] at h
        injection h with h
        subst h
        have := toks_errAt f _ _ q ht
        have hk := skM_le ((b :: l).drop r.2.2) false
        simp only [List.length_drop] at this hk
        omega
      | ok ts => rw [ht] at h; exact absurd h (by simp)
theorem tokens_errAt {l : List UInt8} {p : Int × Int} (h : tokens l = .error p) : 0 ≤ p.1 ∧ p.1 ≤ l.length := by
  unfold tokens at h
  split at h
  · injection h with h; subst h; exact ⟨Int.le_refl _, by simp⟩
  · have := toks_errAt _ _ _ _ h
    have hk := skM_le l false
    rw [List.length_drop] at this
    omega
theorem toks_at : ∀ (f a : Nat) (l : List UInt8) (ts : List Tok), toks f a l = .ok ts → ∀ t ∈ ts, (a : Int) ≤ t.at_ ∧ t.at_ < a + l.length
  | 0, _, _, _, h => by simp [toks] at h; subst h; simp
  | _ + 1, _, [], _, h => by simp [toks] at h; subst h; simp
  | f + 1, a, b :: l, ts, h => by
    unfold toks at h
    cases hn : nextT b l with
    | error e => rw [hn] at h; exact absurd h (by simp)
    | ok r =>
      rw [hn] at h
      simp only at h
      have hl := nextT_len hn
      cases ht : toks f (a + r.2.2 + skM false ((b :: l).drop r.2.2)) (((b :: l).drop r.2.2).drop (skM false ((b :: l).drop r.2.2))) with
      | error q => rw [ht] at h; exact absurd h (by simp)
      | ok us =>
        rw [ht] at h
        injection h with h
        subst h
        intro t hm
        rcases List.mem_cons.1 hm with rfl | hm
        · exact ⟨Int.le_refl _, by simp; omega⟩
        · have := toks_at f _ _ us ht t hm
          have hk := skM_le ((b :: l).drop r.2.2) false
          simp only [List.length_drop] at this hk
          omega
theorem tokens_at {l : List UInt8} {ts : List Tok} (h : tokens l = .ok ts) : ∀ t ∈ ts, 0 ≤ t.at_ ∧ t.at_ < l.length := by
  unfold tokens at h
  split at h
  · exact absurd h (by simp)
  · intro t ht
    have := toks_at _ _ _ _ h t ht
    have hk := skM_le l false
    rw [List.length_drop] at this
    omega
end Go.Proofs.YtiajmdmofjfdcaaGreatDoor.Lexr
namespace Go.Proofs.YtiajmdmofjfdcaaGreatDoor
set_option linter.unusedSimpArgs false
set_option linter.unusedVariables false
open Go.RowKit Lexr
/-- What a law's call must bring: true, and nothing older is changed. -/
abbrev LawIs (w : World) (e : Ending) (w' : World) : Prop := e = .returned (.bool true) ∧ Below w.heap.size w w'
theorem run_addS (s t : ByteArray) (W : World) (h : s.size + t.size ≤ 9223372036854775807) : (binOp .add 9 (.string s) (.string t)).run Tryz.prog W = .ok (.string (s ++ t)) W := by
  rw [binOp_string_add]
  exact run_string_add_sum _ s t h
theorem tokens_some (s : ByteArray) (w : World) (hs : s.size ≤ 1099511627776) (hg : GTab w) :
    Calls Tryz.prog 10 #[.string s] w fun e w' => ∃ v q, e = .returned (.tuple #[v, prV q]) ∧ Below w.heap.size w w' := by
  cases h : tokens s.data.toList with
  | error p => exact (tokens_bad w hs hg h).mono fun e w' ⟨h1, h2⟩ => ⟨_, p, h1, h2⟩
  | ok ts => exact (tokens_ok w hs hg h).mono fun e w' ⟨A, c, h1, _, _, _, _, h2⟩ => ⟨_, (0, 0), h1, h2⟩
theorem one_flat {α : Type} {f : α → List Value} (h : ∀ x, ∀ u ∈ f x, u.oneCell' = true) (l : List α) : ∀ u ∈ l.flatMap f, u.oneCell' = true := fun u hu => by
  obtain ⟨x, _, hx⟩ := List.mem_flatMap.1 hu
  exact h x u hx
theorem wpList_lit0Lx {w : World} {ops : Array Oper} {rest : List Oper} {o : Oper} {a : Act} {Q : Exit → Act → World → Prop} (hgd : o.guard = none) (ho : o.op = .buildSlice 23 0 #[])
    (h : ∀ w' g, g = w.heap.size → w'.ownsRow w.heap.size 44 3 (.slice (some ⟨g, 0, none⟩) 0 0) 0 [] → Below w.heap.size w w' → g < w'.heap.size → wpList Tryz.prog ops Q rest (a.put o.dst (.slice (some ⟨g, 0, none⟩) 0 0)) w') : wpList Tryz.prog ops Q (o :: rest) a w := by
  refine wpList_plain hgd fun K hK => ?_
  have hbd : ∀ W, (Instr.buildSlice 23 0 #[]).run Tryz.prog W = .ok (.slice (some ⟨W.heap.size, 0, none⟩) 0 0) (W.alloc (.cells #[] 44)) := fun W => by kernel_rfl
  have h2 := hK _ _ (h _ _ rfl (World.ownsRow_made w #[] 0 (Nat.le_refl _) (Nat.zero_le _) rfl) ((Below.refl _ _).alloc (Nat.le_refl _) _) (by simp))
  unfold Oper.wp execOp
  simp only [ho, List.map_toArray, List.map_nil, hbd, Sem.run_bind, Result.andThen_ok, Sem.run_pure]
  exact h2
end Go.Proofs.YtiajmdmofjfdcaaGreatDoor
