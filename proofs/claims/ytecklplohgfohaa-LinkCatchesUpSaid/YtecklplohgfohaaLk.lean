/-
  Links in plain Lean: outboxes, inboxes, frames, and what the acts on them do. Conditions: none.
-/
namespace Link
set_option linter.unusedSimpArgs false
set_option linter.unusedVariables false
structure Fr where
  sum : Bool
  seq : Int
  body : ByteArray
deriving DecidableEq
structure Ob where
  base : Int
  acked : Int
  summary : ByteArray
  queue : List ByteArray
structure Ib where
  next : Int
  ahead : List Fr
def oz : Ob := ⟨0, 0, ⟨#[]⟩, []⟩
def maxOut : Int := 1099511627776
def maxIn : Int := 2199023255552
def Ob.fin (o : Ob) : Int := o.base + o.queue.length
def short (s : ByteArray) : Bool := decide (s.size ≤ 65536)
def validOut (o : Ob) : Bool :=
  decide (0 ≤ o.base) && decide (o.base ≤ maxOut) && decide (0 ≤ o.acked) && decide (o.acked ≤ maxOut) && decide (o.acked ≤ o.fin) && decide (o.queue.length ≤ 1000) && short o.summary && o.queue.all short
def putO (o : Ob) (b : ByteArray) : Ob × Int :=
  if validOut o && short b then (if o.queue.length = 1000 ∨ maxOut ≤ o.fin then (oz, 2) else ({ o with queue := o.queue ++ [b] }, 0)) else (oz, 1)
def foldO (o : Ob) (u : Int) (s : ByteArray) : Ob × Int :=
  if validOut o && decide (o.base ≤ u) && decide (u ≤ o.fin) && short s then (⟨u, o.acked, s, o.queue.drop (u - o.base).toNat⟩, 0) else (oz, 1)
/-- The messages with their numbers. -/
def msgs : Int → List ByteArray → List Fr
  | _, [] => []
  | n, b :: l => ⟨false, n, b⟩ :: msgs (n + 1) l
def framesAll (o : Ob) : List Fr :=
  (if o.acked < o.base then [⟨true, o.base, o.summary⟩] else []) ++ msgs (max o.acked o.base) (o.queue.drop (max o.acked o.base - o.base).toNat)
def framesO (o : Ob) (most : Int) : List Fr × Int :=
  if validOut o && decide (0 ≤ most) then ((framesAll o).take most.toNat, 0) else ([], 1)
def ackO (o : Ob) (n : Int) : Ob × Int :=
  if validOut o && decide (0 ≤ n) && decide (n ≤ o.fin) then
    (if n ≤ o.acked then (o, 0) else if n ≤ o.base then ({ o with acked := n }, 0) else (⟨n, n, ⟨#[]⟩, o.queue.drop (n - o.base).toNat⟩, 0))
  else (oz, 1)
def okAhead : Int → List Fr → Bool
  | _, [] => true
  | n, f :: l => !f.sum && decide (n < f.seq) && decide (f.seq ≤ maxIn) && short f.body && okAhead f.seq l
def validIn (i : Ib) : Bool := decide (0 ≤ i.next) && decide (i.next ≤ maxIn) && decide (i.ahead.length ≤ 64) && okAhead i.next i.ahead
def insF : List Fr → Fr → List Fr
  | [], f => [f]
  | x :: l, f => if x.seq = f.seq then x :: l else if f.seq < x.seq then f :: x :: l else x :: insF l f
/-- What is delivered of the frames that came before their turn: the next number, the frames, the rest. -/
def rel : Int → List Fr → Int × List Fr × List Fr
  | n, [] => (n, [], [])
  | n, x :: l => if x.seq = n then ((rel (n + 1) l).1, x :: (rel (n + 1) l).2.1, (rel (n + 1) l).2.2) else ((rel n l).1, (rel n l).2.1, if x.seq < n then (rel n l).2.2 else x :: (rel n l).2.2)
def recvI (i : Ib) (f : Fr) : Ib × List Fr × Int :=
  if validIn i && decide (0 ≤ f.seq) && decide (f.seq ≤ maxOut) && short f.body then
    (if f.seq < i.next ∨ (f.sum = true ∧ f.seq = i.next) then (i, [], 0)
    else if f.sum = false ∧ i.next < f.seq then (if i.ahead.length < 64 then ⟨i.next, insF i.ahead f⟩ else i, [], 0)
    else
      let n := if f.sum then f.seq else f.seq + 1
      (⟨(rel n i.ahead).1, (rel n i.ahead).2.2⟩, f :: (rel n i.ahead).2.1, 0))
  else (i, [], 1)
/-! The inbox. -/
theorem okAhead_mono {n m : Int} {l : List Fr} (h : okAhead n l = true) (hm : m ≤ n) : okAhead m l = true := by
  cases l with
  | nil => rfl
  | cons f l => simp only [okAhead, Bool.and_eq_true, decide_eq_true_eq] at h ⊢; exact ⟨⟨⟨⟨h.1.1.1.1, by omega⟩, h.1.1.2⟩, h.1.2⟩, h.2⟩
theorem okAhead_gt {n : Int} {l : List Fr} (h : okAhead n l = true) : ∀ f ∈ l, n < f.seq ∧ f.sum = false ∧ f.seq ≤ maxIn ∧ short f.body = true := by
  induction l generalizing n with
  | nil => simp
  | cons f l ih =>
    simp only [okAhead, Bool.and_eq_true, decide_eq_true_eq, Bool.not_eq_true'] at h
    intro g hg
    rcases List.mem_cons.1 hg with rfl | hg
    · exact ⟨h.1.1.1.2, h.1.1.1.1, h.1.1.2, h.1.2⟩
    · have := ih h.2 g hg
      exact ⟨by omega, this.2⟩
theorem okAhead_insF {n : Int} {l : List Fr} {f : Fr} (h : okAhead n l = true) (hs : f.sum = false) (hn : n < f.seq) (hx : f.seq ≤ maxIn) (hb : short f.body = true) : okAhead n (insF l f) = true := by
  induction l generalizing n with
  | nil => simp [insF, okAhead, hs, hn, hx, hb]
  | cons x l ih =>
    simp only [insF]
    split
    · exact h
    · rename_i hne
      simp only [okAhead, Bool.and_eq_true, decide_eq_true_eq, Bool.not_eq_true'] at h
      split
      · rename_i hlt
        simp [okAhead, hs, hn, hx, hb, h, hlt]
      · rename_i hge
        simp only [okAhead, Bool.and_eq_true, decide_eq_true_eq, Bool.not_eq_true']
        exact ⟨h.1, ih h.2 (by omega)⟩
theorem insF_len (l : List Fr) (f : Fr) : (insF l f).length ≤ l.length + 1 := by
  induction l with
  | nil => simp [insF]
  | cons x l ih => simp only [insF]; split <;> (try split) <;> simp <;> omega
theorem mem_insF {l : List Fr} {f g : Fr} (h : g ∈ insF l f) : g = f ∨ g ∈ l := by
  induction l with
  | nil => simp [insF] at h; exact Or.inl h
  | cons x l ih =>
    simp only [insF] at h
    split at h
    · exact Or.inr h
    · split at h
      · simpa using h
      · rcases List.mem_cons.1 h with rfl | h
        · simp
        · rcases ih h with h | h
          · exact Or.inl h
          · exact Or.inr (List.mem_cons_of_mem _ h)
/-- A frame that was kept once is kept once. -/
theorem insF_insF {n : Int} {l : List Fr} {f : Fr} (h : okAhead n l = true) : insF (insF l f) f = insF l f := by
  induction l generalizing n with
  | nil => simp [insF]
  | cons x l ih =>
    simp only [insF]
    split
    · rename_i he; simp [insF, he]
    · rename_i hne
      split
      · simp [insF]
      · rename_i hge
        simp only [insF, if_neg hne, if_neg hge]
        simp only [okAhead, Bool.and_eq_true] at h
        rw [ih h.2]
theorem rel_ge (n : Int) (l : List Fr) : n ≤ (rel n l).1 := by
  induction l generalizing n with
  | nil => exact Int.le_refl _
  | cons x l ih =>
    simp only [rel]
    split
    · have := ih (n + 1); simp only; omega
    · exact ih n
theorem rel_none {n m : Int} {l : List Fr} (h : okAhead n l = true) (hm : m ≤ n) : rel m l = (m, [], l) := by
  induction l generalizing n with
  | nil => rfl
  | cons x l ih =>
    simp only [okAhead, Bool.and_eq_true, decide_eq_true_eq] at h
    have hx : m < x.seq := by have := h.1.1.1.2; omega
    simp only [rel]
    rw [if_neg (by omega), if_neg (by omega), ih h.2 (by omega)]
/-- What is left is ahead of the next number. -/
theorem rel_ok {n m : Int} {l : List Fr} (h : okAhead m l = true) : okAhead (rel n l).1 (rel n l).2.2 = true := by
  induction l generalizing n m with
  | nil => rfl
  | cons x l ih =>
    have h' := h
    simp only [okAhead, Bool.and_eq_true, decide_eq_true_eq, Bool.not_eq_true'] at h
    simp only [rel]
    split
    · exact ih h.2
    · rename_i hne
      split
      · exact ih h.2
      · rename_i hge
        rw [rel_none h.2 (by omega)]
        simp only [okAhead, Bool.and_eq_true, decide_eq_true_eq, Bool.not_eq_true']
        exact ⟨⟨⟨⟨h.1.1.1.1, by omega⟩, h.1.1.2⟩, h.1.2⟩, h.2⟩
theorem rel_len (n : Int) (l : List Fr) : (rel n l).2.2.length ≤ l.length ∧ (rel n l).1 ≤ n + l.length := by
  induction l generalizing n with
  | nil => simp [rel]
  | cons x l ih =>
    simp only [rel]
    split
    · have := ih (n + 1); simp; omega
    · have := ih n
      split <;> simp <;> omega
theorem rel_mem {n : Int} {l : List Fr} : (∀ g ∈ (rel n l).2.1, g ∈ l) ∧ ∀ g ∈ (rel n l).2.2, g ∈ l := by
  induction l generalizing n with
  | nil => simp [rel]
  | cons x l ih =>
    simp only [rel]
    split
    · have := @ih (n + 1)
      refine ⟨fun g hg => ?_, fun g hg => List.mem_cons_of_mem _ (this.2 g hg)⟩
      rcases List.mem_cons.1 hg with rfl | hg
      · simp
      · exact List.mem_cons_of_mem _ (this.1 g hg)
    · have := @ih n
      refine ⟨fun g hg => List.mem_cons_of_mem _ (this.1 g hg), fun g hg => ?_⟩
      simp only at hg
      split at hg
      · exact List.mem_cons_of_mem _ (this.2 g hg)
      · rcases List.mem_cons.1 hg with rfl | hg
        · simp
        · exact List.mem_cons_of_mem _ (this.2 g hg)
theorem rel_le {n : Int} {l : List Fr} (hn : n ≤ maxIn + 1) (h : ∀ f ∈ l, f.seq ≤ maxIn) : (rel n l).1 ≤ maxIn + 1 := by
  induction l generalizing n with
  | nil => exact hn
  | cons x l ih =>
    simp only [rel]
    split
    · rename_i he
      have := h x (by simp)
      exact ih (by omega) fun f hf => h f (by simp [hf])
    · exact ih hn fun f hf => h f (by simp [hf])
/-- What came in validly is valid. -/
theorem recvI_valid {i : Ib} {f : Fr} (hi : validIn i = true) : validIn (recvI i f).1 = true := by
  have h := hi
  simp only [validIn, Bool.and_eq_true, decide_eq_true_eq] at h
  unfold recvI
  split
  · rename_i hc
    simp only [Bool.and_eq_true, decide_eq_true_eq] at hc
    split
    · exact hi
    · split
      · rename_i h2 h3
        split
        · rename_i h4
          simp only [validIn, Bool.and_eq_true, decide_eq_true_eq]
          have h5 := insF_len i.ahead f
          exact ⟨⟨h.1.1, by omega⟩, okAhead_insF h.2 h3.1 h3.2 (by have := hc.1.2; unfold maxOut at this; unfold maxIn; omega) hc.2⟩
        · exact hi
      · rename_i h2 h3
        simp only [validIn, Bool.and_eq_true, decide_eq_true_eq]
        have hl := rel_len (if f.sum = true then f.seq else f.seq + 1) i.ahead
        have hge := rel_ge (if f.sum = true then f.seq else f.seq + 1) i.ahead
        have hfo := hc.1.2
        have hf0 := hc.1.1.2
        have hll := h.1.2
        unfold maxOut at hfo
        unfold maxIn
        refine ⟨⟨⟨?_, ?_⟩, ?_⟩, rel_ok h.2⟩ <;> split at hl <;> split at hge <;> simp_all <;> omega
  · exact hi
theorem recvI_next {i : Ib} {f : Fr} : i.next ≤ (recvI i f).1.next := by
  unfold recvI
  split
  · split
    · exact Int.le_refl _
    · split
      · split <;> exact Int.le_refl _
      · rename_i h2 h3
        have hge := rel_ge (if f.sum = true then f.seq else f.seq + 1) i.ahead
        simp only
        cases hs : f.sum <;> simp [hs] at * <;> omega
  · exact Int.le_refl _
/-- The same frame once more: nothing is delivered, and nothing changes. -/
theorem recvI_again {i : Ib} {f : Fr} (h0 : (recvI i f).2.2 = 0) : recvI (recvI i f).1 f = ((recvI i f).1, [], 0) := by
  have hc : (validIn i && decide (0 ≤ f.seq) && decide (f.seq ≤ maxOut) && short f.body) = true := by
    unfold recvI at h0
    split at h0
    · assumption
    · cases h0
  have hv : validIn i = true := by simp only [Bool.and_eq_true] at hc; exact hc.1.1.1
  have hv2 := recvI_valid (f := f) hv
  have hc2 : (validIn (recvI i f).1 && decide (0 ≤ f.seq) && decide (f.seq ≤ maxOut) && short f.body) = true := by
    rw [hv2]; rw [hv] at hc; exact hc
  generalize hr : recvI i f = r at *
  rw [recvI, if_pos hc2]
  unfold recvI at hr
  rw [if_pos hc] at hr
  split at hr
  · rename_i h1
    subst hr
    rw [if_pos h1]
  · rename_i h1
    split at hr
    · rename_i h2
      split at hr
      · rename_i h3
        subst hr
        rw [if_neg h1, if_pos h2]
        simp only [validIn, Bool.and_eq_true] at hv
        simp only [insF_insF hv.2, ite_self]
      · rename_i h3
        subst hr
        rw [if_neg h1, if_pos h2, if_neg h3]
    · rename_i h2
      subst hr
      have hge := rel_ge (if f.sum = true then f.seq else f.seq + 1) i.ahead
      rw [if_pos]
      simp only
      cases hs : f.sum
      · simp [hs] at hge
        exact Or.inl (by simp; omega)
      · simp [hs] at hge
        simp
        omega
end Link
