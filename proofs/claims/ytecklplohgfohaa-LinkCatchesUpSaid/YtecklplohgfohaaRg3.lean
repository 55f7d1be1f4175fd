/-
  A region whose order is open: what yields its value in whatever world is taken first, though a store may come before it. Plain theorems over the library's own words.
-/
import Derived.Test.YtecklplohgfohaaRegion
namespace Go.Proofs.Ytecklplohgfohaa
set_option linter.unusedSimpArgs false
set_option linter.unusedVariables false
open Go Go.RowKit
section
variable {P : Program} {ops : Array Oper} {Q : Exit → Act → World → Prop} {S : World → Prop} {t : Nat}
theorem WpT.firstP {i : Nat} {oi : Oper} {v : Value} (hi : ops[i]? = some oi) (hsel : Region.noSelect ops = true)
    (hQ : ∀ c a w, Q (.panic c) (a.put oi.dst v) w → Q (.panic c) a w) (hit : i ≠ t) :
    ∀ (f : Nat) (listed : Array Bool) (a : Act) (w : World),
      (∀ j oj, ops[j]? = some oj → j ≠ i → listed.getD j true = false → (∀ e ∈ oj.after, Region.binds .any e = true → e.on ≠ i) → oi.apart ops oj = true) →
      i ∈ Region.ready .any ops listed → YieldsIf P ops (fun _ => True) oi v a → (listed.getD t false = true ∨ S w) →
      WpT P ops Q S t f (listed.setIfInBounds i true) (a.put oi.dst v) w → WpT P ops Q S t (f + 1) listed a w := by
  have sel := Region.noSelect_spec hsel
  intro f
  induction f with
  | zero =>
    intro listed a w _ hr hy hS H
    refine ⟨fun h => (by rw [h] at hr; cases hr), fun j hj => ?_⟩
    by_cases hji : j = i
    · subst hji; exact hy.wpOp hi trivial ⟨.inr hS, H⟩
    · have := ready_mono hj hji
      rw [H.1] at this
      cases this
  | succ f ih =>
    intro listed a w hfree hr hy hS H
    refine ⟨fun h => (by rw [h] at hr; cases hr), fun j hj => ?_⟩
    by_cases hji : j = i
    · subst hji; exact hy.wpOp hi trivial ⟨.inr hS, H⟩
    obtain ⟨hjun, oj, hoj, hall⟩ := mem_ready.1 hj
    have hun := (mem_ready.1 hr).1
    have hnot : ∀ e ∈ oj.after, Region.binds .any e = true → e.on ≠ i := fun e he hb heq => by
      have h1 := hall e he hb
      rw [heq] at h1
      rcases Nat.lt_or_ge i listed.size with h' | h'
      · simp [h'] at hun h1; rw [hun] at h1; cases h1
      · simp [Array.getElem?_eq_none h'] at h1
    have h2 := wpOp_putIf hoj (hfree j oj hoj hji hjun hnot) (fun cs b => sel i oi cs b hi) (fun cs b => sel j oj cs b hoj) hQ hy (H.2 j (ready_mono hj hji))
    refine wpOp_mono (fun a' w' h3 => ?_) h2
    have hjlt : j < listed.size := by
      rcases Nat.lt_or_ge j listed.size with h' | h'
      · exact h'
      · simp [Array.getElem?_eq_none h'] at hjun
    have hS1 : j = t ∨ listed.getD t false = true ∨ S w' := by
      rcases h3.2.1 with h | h | h
      · exact .inl h
      · rw [getD_set_ne false hit] at h; exact .inr (.inl h)
      · exact .inr (.inr h)
    have hS2 : (listed.setIfInBounds j true).getD t false = true ∨ S w' := by
      rcases hS1 with h | h | h
      · subst h; exact .inl (by simp [hjlt])
      · by_cases hjt : j = t
        · subst hjt; exact .inl (by simp [hjlt])
        · exact .inl (by rw [getD_set_ne false hjt]; exact h)
      · exact .inr h
    refine ⟨hS1, ih (listed.setIfInBounds j true) a' w' ?_ (ready_mono hr (Ne.symm hji)) h3.1 hS2 ?_⟩
    · intro k ok hk hki hk2 hno
      refine hfree k ok hk hki ?_ hno
      by_cases hjk : j = k
      · subst hjk; exact hjun
      · rwa [getD_set_ne true hjk] at hk2
    · rw [Array.setIfInBounds_comm _ _ hji]
      exact h3.2.2
/-- The side conditions, as one Bool. -/
def takePOk (ops : Array Oper) (t i : Nat) (listed : Array Bool) : Bool := Region.noSelect ops && Region.free .any ops listed i && (Region.ready .any ops listed).contains i && !(i == t)
theorem WpT.takeP {i : Nat} {oi : Oper} {v : Value} {f : Nat} {listed : Array Bool} {a : Act} {w : World} (hl : ops.toList[i]? = some oi) (hok : takePOk ops t i listed = true)
    (hQ : ∀ c a w, Q (.panic c) (a.put oi.dst v) w → Q (.panic c) a w) (hy : YieldsIf P ops (fun _ => True) oi v a) (hS : S w)
    (h : WpT P ops Q S t f (listed.setIfInBounds i true) (a.put oi.dst v) w) : WpT P ops Q S t (f + 1) listed a w := by
  have hi : ops[i]? = some oi := by rwa [Array.getElem?_toList] at hl
  simp only [takePOk, Bool.and_eq_true, Bool.not_eq_true', beq_eq_false_iff_ne] at hok
  obtain ⟨⟨⟨h1, h2⟩, h3⟩, h4⟩ := hok
  exact WpT.firstP hi h1 hQ h4 f listed a w (Region.free_spec hi h2) (by simpa using h3) hy (.inr hS) h
end
end Go.Proofs.Ytecklplohgfohaa
