/-
  Frames in order: where a number belongs. Conditions: none.
-/
import Derived.Test.YtecklplohgfohaaLk
namespace Link
set_option linter.unusedSimpArgs false
set_option linter.unusedVariables false
def lowF (z : Int) : List Fr → Nat
  | [] => 0
  | x :: l => if x.seq < z then lowF z l + 1 else 0
def knownF (z : Int) (l : List Fr) : Bool := match l[lowF z l]? with | some x => decide (x.seq = z) | none => false
def SortedF (l : List Fr) : Prop := l.Pairwise fun a b => a.seq < b.seq
theorem sorted_of {n : Int} {l : List Fr} (h : okAhead n l = true) : SortedF l := by
  induction l generalizing n with
  | nil => exact List.Pairwise.nil
  | cons x l ih =>
    have h' := h
    simp only [okAhead, Bool.and_eq_true] at h
    exact List.Pairwise.cons (fun y hy => (okAhead_gt h.2 y hy).1) (ih h.2)
theorem lowF_unique (z : Int) : ∀ (l : List Fr) (i : Nat), i ≤ l.length → (∀ (m : Nat) (h : m < l.length), m < i → l[m].seq < z) → (∀ (m : Nat) (h : m < l.length), i ≤ m → ¬ l[m].seq < z) → i = lowF z l
  | [], i, h, _, _ => by simpa [lowF] using h
  | x :: l, 0, _, _, h2 => by
    have := h2 0 (by simp) (Nat.le_refl _)
    simp only [List.getElem_cons_zero] at this
    simp [lowF, this]
  | x :: l, i + 1, h, h1, h2 => by
    have h3 := h1 0 (by simp) (by omega)
    simp only [List.getElem_cons_zero] at h3
    have h4 := lowF_unique z l i (by simpa using h) (fun m hm hi => h1 (m + 1) (by simpa using hm) (by omega)) (fun m hm hi => h2 (m + 1) (by simpa using hm) (by omega))
    simp [lowF, h3, h4]
theorem lowF_le (z : Int) (l : List Fr) : lowF z l ≤ l.length := by
  induction l with
  | nil => simp [lowF]
  | cons x l ih => simp only [lowF]; split <;> simp <;> omega
theorem insF_eq {n : Int} {l : List Fr} {f : Fr} (h : okAhead n l = true) : insF l f = if knownF f.seq l then l else l.take (lowF f.seq l) ++ [f] ++ l.drop (lowF f.seq l) := by
  induction l generalizing n with
  | nil => simp [insF, knownF, lowF]
  | cons x l ih =>
    simp only [okAhead, Bool.and_eq_true] at h
    have ih := ih h.2
    simp only [insF]
    by_cases h1 : x.seq = f.seq
    · rw [if_pos h1]
      have h2 : ¬ x.seq < f.seq := by omega
      simp [knownF, lowF, h2, h1]
    · rw [if_neg h1]
      by_cases h2 : f.seq < x.seq
      · have h3 : ¬ x.seq < f.seq := by omega
        rw [if_pos h2]
        simp [knownF, lowF, h3, h1]
      · have h3 : x.seq < f.seq := by omega
        rw [if_neg h2, ih]
        have e : knownF f.seq (x :: l) = knownF f.seq l := by simp [knownF, lowF, h3]
        rw [e]
        by_cases h4 : knownF f.seq l <;> simp [h4, lowF, h3]
/-- What remains of a list whose frames before a place have been gone through. -/
def relS (n : Int) (l : List Fr) : Int × List Fr × List Fr := rel n l
/-- One step: the next number and the frames so far. -/
def stepN (n : Int) (x : Fr) : Int := if x.seq = n then n + 1 else n
def goneF (n : Int) (x : Fr) : Bool := decide (x.seq ≤ n)
theorem rel_cons (n : Int) (x : Fr) (l : List Fr) : rel n (x :: l) = ((rel (stepN n x) l).1, (if x.seq = n then [x] else []) ++ (rel (stepN n x) l).2.1, (if x.seq ≤ n then [] else [x]) ++ (rel (stepN n x) l).2.2) := by
  unfold stepN
  simp only [rel]
  by_cases h : x.seq = n
  · simp [h]
  · by_cases h2 : x.seq < n
    · have : x.seq ≤ n := by omega
      simp [h, h2, this]
    · have : ¬ x.seq ≤ n := by omega
      simp [h, h2, this]
end Link
namespace Link
/-- How far the frames that came early have been gone through. -/
def RelAt (nx : Int) (l : List Fr) (j : Nat) (nj : Int) (oj kj : List Fr) : Prop := rel nx l = ((rel nj (l.drop j)).1, oj ++ (rel nj (l.drop j)).2.1, kj ++ (rel nj (l.drop j)).2.2)
theorem RelAt.zero (nx : Int) (l : List Fr) : RelAt nx l 0 nx [] [] := by simp [RelAt]
theorem RelAt.keep {nx : Int} {l : List Fr} {j : Nat} {nj : Int} {oj kj : List Fr} (h : RelAt nx l j nj oj kj) (hj : j < l.length) (hlt : nj < l[j].seq) : RelAt nx l (j + 1) nj oj (kj ++ [l[j]]) := by
  unfold RelAt at h ⊢
  rw [List.drop_eq_getElem_cons hj, rel_cons] at h
  rw [h]
  have h1 : ¬ l[j].seq = nj := by omega
  have h2 : ¬ l[j].seq ≤ nj := by omega
  simp [stepN, h1, h2]
theorem RelAt.gone {nx : Int} {l : List Fr} {j : Nat} {nj : Int} {oj kj : List Fr} (h : RelAt nx l j nj oj kj) (hj : j < l.length) (hle : l[j].seq ≤ nj) : RelAt nx l (j + 1) (stepN nj l[j]) (oj ++ if l[j].seq = nj then [l[j]] else []) kj := by
  unfold RelAt at h ⊢
  rw [List.drop_eq_getElem_cons hj, rel_cons] at h
  rw [h]
  simp [hle]
theorem RelAt.done {nx : Int} {l : List Fr} {nj : Int} {oj kj : List Fr} (h : RelAt nx l l.length nj oj kj) : rel nx l = (nj, oj, kj) := by
  unfold RelAt at h
  rw [List.drop_length] at h
  simpa [rel] using h
theorem stepN_le (n : Int) (x : Fr) : n ≤ stepN n x ∧ stepN n x ≤ n + 1 := by unfold stepN; split <;> omega
end Link
