/-
  T10 in plain Lean: whatever happens on a link, what is delivered is in order, and the link catches up. Conditions: none.
-/
import Derived.Test.YtecklplohgfohaaLk
namespace Link
set_option linter.unusedSimpArgs false
set_option linter.unusedVariables false
def msg (n : Int) : ByteArray := ⟨#[109, UInt8.ofNat (97 + n.toNat % 26), UInt8.ofNat (97 + n.toNat / 26 % 26)]⟩
def summ (n : Int) : ByteArray := ⟨#[115, 109, UInt8.ofNat (97 + n.toNat % 26), UInt8.ofNat (97 + n.toNat / 26 % 26)]⟩
theorem short_msg (n : Int) : short (msg n) = true := rfl
theorem short_summ (n : Int) : short (summ n) = true := rfl
structure Line where
  o : Ob
  i : Ib
  sent : List Fr
  told : List Int
  dl : List Fr
  bad : Bool
def frz : Fr := ⟨false, 0, ⟨#[]⟩⟩
def lz : Line := ⟨oz, ⟨0, []⟩, [], [], [], false⟩
def actL (w : Line) (a : Nat × Nat) : Line :=
  if a.1 % 6 = 0 then { w with o := (putO w.o (msg w.o.fin)).1, bad := w.bad || decide ((putO w.o (msg w.o.fin)).2 ≠ 0) }
  else if a.1 % 6 = 1 then
    let u : Int := w.o.base + (a.2 % (w.o.queue.length + 1) : Nat)
    { w with o := (foldO w.o u (summ u)).1, bad := w.bad || decide ((foldO w.o u (summ u)).2 ≠ 0) }
  else if a.1 % 6 = 2 then
    let m : Int := (1 + a.2 % 20 : Nat)
    { w with sent := w.sent ++ (framesO w.o m).1, bad := w.bad || decide ((framesO w.o m).2 ≠ 0) }
  else if a.1 % 6 = 3 then
    (if w.sent.length > 0 then
      let r := recvI w.i (w.sent.getD (a.2 % w.sent.length) frz)
      { w with i := r.1, dl := w.dl ++ r.2.1, told := w.told ++ [r.1.next], bad := w.bad || decide (r.2.2 ≠ 0) }
    else w)
  else if a.1 % 6 = 4 then
    (if w.told.length > 0 then
      let r := ackO w.o (w.told.getD (a.2 % w.told.length) 0)
      { w with o := r.1, bad := w.bad || decide (r.2 ≠ 0) }
    else w)
  else { w with i := ⟨w.i.next, []⟩ }
/-- What was delivered, in order: the number that comes next. -/
def ordL : Int → List Fr → Option Int
  | n, [] => some n
  | n, f :: l => if f.sum then (if f.seq ≤ n ∨ f.body ≠ summ f.seq then none else ordL f.seq l) else (if f.seq ≠ n ∨ f.body ≠ msg f.seq then none else ordL (n + 1) l)
def orderedL (w : Line) : Bool := ordL 0 w.dl == some w.i.next
theorem ordL_append (n : Int) (a b : List Fr) : ordL n (a ++ b) = (ordL n a).bind fun m => ordL m b := by
  induction a generalizing n with
  | nil => rfl
  | cons f a ih =>
    simp only [List.cons_append, ordL]
    split <;> split <;> simp [ih]
/-- A frame that a sender sends: its message, or the summary. -/
def Good (e : Int) (f : Fr) : Prop := 0 ≤ f.seq ∧ (if f.sum then f.seq ≤ e ∧ f.body = summ f.seq else f.seq < e ∧ f.body = msg f.seq)
theorem Good.mono {e e' : Int} {f : Fr} (h : Good e f) (he : e ≤ e') : Good e' f := by
  unfold Good at *
  refine ⟨h.1, ?_⟩
  cases hs : f.sum <;> simp [hs] at h ⊢ <;> exact ⟨by omega, h.2.2⟩
structure OInv (o : Ob) (k : Nat) : Prop where
  b0 : 0 ≤ o.base
  a0 : 0 ≤ o.acked
  ae : o.acked ≤ o.fin
  fk : o.fin ≤ k
  q : ∀ (j : Nat) (b : ByteArray), o.queue[j]? = some b → b = msg (o.base + j)
  s : o.acked < o.base → o.summary = summ o.base
  ss : short o.summary = true
theorem OInv.valid {o : Ob} {k : Nat} (h : OInv o k) (hk : k ≤ 1000) : validOut o = true := by
  obtain ⟨h1, h2, h3, h4, h5, h6, h7⟩ := h
  have hq : o.queue.all short = true := by
    rw [List.all_eq_true]
    intro b hb
    obtain ⟨j, hj⟩ := List.mem_iff_getElem?.1 hb
    rw [h5 j b hj]; rfl
  unfold Ob.fin at *
  simp only [validOut, Bool.and_eq_true, decide_eq_true_eq]
  unfold maxOut Ob.fin
  exact ⟨⟨⟨⟨⟨⟨⟨h1, by omega⟩, h2⟩, by omega⟩, h3⟩, by omega⟩, h7⟩, hq⟩
structure IInv (i : Ib) (e : Int) : Prop where
  v : validIn i = true
  ne : i.next ≤ e
  g : ∀ f ∈ i.ahead, Good e f
structure Inv (w : Line) (k : Nat) : Prop where
  o : OInv w.o k
  i : IInv w.i w.o.fin
  an : w.o.acked ≤ w.i.next
  sg : ∀ f ∈ w.sent, Good w.o.fin f
  tn : ∀ t ∈ w.told, 0 ≤ t ∧ t ≤ w.i.next
  dl : ordL 0 w.dl = some w.i.next
  bad : w.bad = false
theorem msgs_good {e : Int} : ∀ (l : List ByteArray) (n : Int), 0 ≤ n → n + l.length ≤ e → (∀ (j : Nat) (b : ByteArray), l[j]? = some b → b = msg (n + j)) → ∀ f ∈ msgs n l, Good e f
  | [], _, _, _, _ => by simp [msgs]
  | b :: l, n, h0, he, hq => by
    intro f hf
    simp only [List.length_cons] at he
    rcases List.mem_cons.1 hf with rfl | hf
    · have := hq 0 b rfl
      simp only [Int.natCast_zero, Int.add_zero] at this
      refine ⟨h0, ?_⟩
      simp only [Bool.false_eq_true, if_false]
      exact ⟨by omega, this⟩
    · refine msgs_good l (n + 1) (by omega) (by omega) (fun j b hj => ?_) f hf
      have := hq (j + 1) b (by simpa using hj)
      rw [this]
      congr 1
      push_cast
      omega
theorem OInv.drop {o : Ob} {k : Nat} (h : OInv o k) {u : Int} (h1 : o.base ≤ u) (h2 : u ≤ o.fin) : u + (o.queue.drop (u - o.base).toNat).length = o.fin ∧ ∀ (j : Nat) (b : ByteArray), (o.queue.drop (u - o.base).toNat)[j]? = some b → b = msg (u + j) := by
  unfold Ob.fin at *
  refine ⟨by simp; omega, fun j b hj => ?_⟩
  rw [List.getElem?_drop] at hj
  rw [h.q _ _ hj]
  congr 1
  push_cast
  omega
theorem OInv.good {o : Ob} {k : Nat} (h : OInv o k) : ∀ f ∈ framesAll o, Good o.fin f := by
  intro f hf
  have h3 := h.ae
  rcases List.mem_append.1 hf with hf | hf
  · split at hf
    · rename_i hl
      simp at hf
      subst hf
      refine ⟨h.b0, ?_⟩
      simp only [if_true]
      exact ⟨by unfold Ob.fin; omega, h.s hl⟩
    · simp at hf
  · have hm : o.base ≤ max o.acked o.base := by omega
    have hm2 : max o.acked o.base ≤ o.fin := by unfold Ob.fin at *; omega
    obtain ⟨d1, d2⟩ := h.drop hm hm2
    exact msgs_good _ _ (by have := h.b0; omega) (by omega) d2 f hf
/-- What is released of the frames ahead is in order. -/
theorem rel_ord {e : Int} {n m : Int} {l : List Fr} (h : okAhead m l = true) (hg : ∀ f ∈ l, Good e f) : ordL n (rel n l).2.1 = some (rel n l).1 := by
  induction l generalizing n m with
  | nil => rfl
  | cons x l ih =>
    simp only [okAhead, Bool.and_eq_true, decide_eq_true_eq, Bool.not_eq_true'] at h
    simp only [rel]
    split
    · rename_i he
      have hx := hg x (by simp)
      simp only [Good, h.1.1.1.1, Bool.false_eq_true, if_false] at hx
      simp only [ordL, h.1.1.1.1, Bool.false_eq_true, if_false]
      rw [if_neg (by rintro (h1 | h1); exact h1 he; exact h1 hx.2.2)]
      exact ih h.2 fun f hf => hg f (by simp [hf])
    · exact ih h.2 fun f hf => hg f (by simp [hf])
theorem rel_next {e : Int} {n : Int} {l : List Fr} (hn : n ≤ e) (hs : ∀ f ∈ l, f.sum = false) (hg : ∀ f ∈ l, Good e f) : (rel n l).1 ≤ e := by
  induction l generalizing n with
  | nil => exact hn
  | cons x l ih =>
    simp only [rel]
    have hx := hg x (by simp)
    simp only [Good, hs x (by simp), Bool.false_eq_true, if_false] at hx
    split
    · exact ih (by omega) (fun f hf => hs f (by simp [hf])) fun f hf => hg f (by simp [hf])
    · exact ih hn (fun f hf => hs f (by simp [hf])) fun f hf => hg f (by simp [hf])
/-- A good frame arrives. -/
theorem recvI_inv {i : Ib} {e : Int} {f : Fr} (h : IInv i e) (hf : Good e f) (he : e ≤ maxOut) : IInv (recvI i f).1 e ∧ (recvI i f).2.2 = 0 ∧ ordL i.next (recvI i f).2.1 = some (recvI i f).1.next := by
  have hv := recvI_valid (f := f) h.v
  have hb : short f.body = true := by
    have := hf.2
    split at this <;> rw [this.2] <;> rfl
  have hle : f.seq ≤ e := by
    have := hf.2
    split at this <;> omega
  have hc : (validIn i && decide (0 ≤ f.seq) && decide (f.seq ≤ maxOut) && short f.body) = true := by
    simp only [Bool.and_eq_true, decide_eq_true_eq]
    exact ⟨⟨⟨h.v, hf.1⟩, by omega⟩, hb⟩
  have hvi := h.v
  simp only [validIn, Bool.and_eq_true] at hvi
  unfold recvI at *
  rw [if_pos hc] at *
  split
  · exact ⟨h, rfl, rfl⟩
  · rename_i h1
    rw [if_neg h1] at hv
    split
    · rename_i h2
      rw [if_pos h2] at hv
      refine ⟨⟨hv, ?_, ?_⟩, rfl, ?_⟩
      · split <;> exact h.ne
      · intro g hg
        split at hg
        · rcases mem_insF hg with rfl | hg
          · exact hf
          · exact h.g g hg
        · exact h.g g hg
      · split <;> rfl
    · rename_i h2
      rw [if_neg h2] at hv
      have hs : ∀ g ∈ i.ahead, g.sum = false := fun g hg => (okAhead_gt hvi.2 g hg).2.1
      refine ⟨⟨hv, ?_, fun g hg => h.g g (rel_mem.2 g hg)⟩, rfl, ?_⟩
      · refine rel_next ?_ hs h.g
        have := hf.2
        cases hsum : f.sum <;> simp [hsum] at this ⊢ <;> omega
      · simp only
        have hr := rel_ord (n := if f.sum = true then f.seq else f.seq + 1) hvi.2 h.g
        have := hf.2
        cases hsum : f.sum
        · simp [hsum] at this h1 h2 hr ⊢
          have heq : f.seq = i.next := by omega
          rw [ordL, hsum]
          simp only [Bool.false_eq_true, if_false]
          rw [if_neg (by rintro (h5 | h5); exact h5 heq; exact h5 this.2), ← heq]
          exact hr
        · simp [hsum] at this h1 h2 hr ⊢
          rw [ordL, hsum]
          simp only [if_true]
          rw [if_neg (by rintro (h5 | h5); omega; exact h5 this.2)]
          exact hr
theorem ackO_inv {o : Ob} {k : Nat} {n : Int} (h : OInv o k) (hk : k ≤ 1000) (h0 : 0 ≤ n) (hn : n ≤ o.fin) : OInv (ackO o n).1 k ∧ (ackO o n).2 = 0 ∧ (ackO o n).1.fin = o.fin ∧ (ackO o n).1.acked = max o.acked n := by
  have hc : (validOut o && decide (0 ≤ n) && decide (n ≤ o.fin)) = true := by
    simp only [Bool.and_eq_true, decide_eq_true_eq]; exact ⟨⟨h.valid hk, h0⟩, hn⟩
  unfold ackO
  rw [if_pos hc]
  obtain ⟨h1, h2, h3, h4, h5, h6, h7⟩ := h
  split
  · rename_i hle
    exact ⟨⟨h1, h2, h3, h4, h5, h6, h7⟩, rfl, rfl, by simp only; omega⟩
  · rename_i hlt
    split
    · rename_i hb
      refine ⟨⟨h1, h0, hn, h4, h5, ?_, h7⟩, rfl, rfl, ?_⟩
      · intro hl
        simp only at hl
        exact h6 (by omega)
      · simp only; omega
    · rename_i hb
      obtain ⟨d1, d2⟩ := OInv.drop ⟨h1, h2, h3, h4, h5, h6, h7⟩ (u := n) (by omega) hn
      have hf : (⟨n, n, ⟨#[]⟩, o.queue.drop (n - o.base).toNat⟩ : Ob).fin = o.fin := d1
      refine ⟨⟨h0, h0, by rw [hf]; exact hn, by rw [hf]; exact h4, d2, fun hl => absurd hl (by simp), rfl⟩, rfl, hf, ?_⟩
      simp only; omega
theorem getD_mem {α} {l : List α} {j : Nat} {d : α} (h : j < l.length) : l.getD j d ∈ l := by
  rw [List.getD_eq_getElem?_getD, List.getElem?_eq_getElem h]
  simp
/-- The invariant of the acts. -/
theorem act_inv {w : Line} {k : Nat} {a : Nat × Nat} (h : Inv w k) (hk : k < 1000) : Inv (actL w a) (k + 1) := by
  obtain ⟨ho, hi, han, hsg, htn, hdl, hbad⟩ := h
  have hv := ho.valid (by omega)
  have hb0 := ho.b0
  have hfk := ho.fk
  have hone : OInv w.o (k + 1) := { ho with fk := by have := ho.fk; push_cast; omega }
  unfold actL
  split
  · have hlen : ¬(w.o.queue.length = 1000 ∨ maxOut ≤ w.o.fin) := by
      have := ho.fk; have := ho.b0; unfold Ob.fin at *; unfold maxOut; omega
    have hp : putO w.o (msg w.o.fin) = ({ w.o with queue := w.o.queue ++ [msg w.o.fin] }, 0) := by
      unfold putO
      rw [hv, short_msg]
      simp only [Bool.and_self, if_true]
      rw [if_neg hlen]
    rw [hp]
    have hfin : ({ w.o with queue := w.o.queue ++ [msg w.o.fin] } : Ob).fin = w.o.fin + 1 := by unfold Ob.fin; simp; omega
    refine ⟨⟨ho.b0, ho.a0, ?_, ?_, ?_, ho.s, ho.ss⟩, ⟨hi.v, ?_, fun f hf => (hi.g f hf).mono ?_⟩, han, fun f hf => (hsg f hf).mono ?_, htn, hdl, ?_⟩
    · rw [hfin]; have := ho.ae; simp only; omega
    · rw [hfin]; have := ho.fk; push_cast; omega
    · intro j b hj
      simp only at hj ⊢
      rw [List.getElem?_append] at hj
      split at hj
      · exact ho.q j b hj
      · rename_i hge
        have : j - w.o.queue.length = 0 := by
          have := (List.getElem?_eq_some_iff.1 hj).1
          simp at this; omega
        rw [this] at hj
        simp only [List.getElem?_cons_zero, Option.some.injEq] at hj
        rw [← hj]
        congr 1
        unfold Ob.fin
        omega
    · simp only; rw [hfin]; have := hi.ne; omega
    · simp only; rw [hfin]; omega
    · simp only; rw [hfin]; omega
    · simp [hbad]
  split
  · simp only
    generalize hu : (w.o.base + ((a.2 % (w.o.queue.length + 1) : Nat) : Int)) = u
    have hu1 : w.o.base ≤ u := by omega
    have hu2 : u ≤ w.o.fin := by
      have : a.2 % (w.o.queue.length + 1) < w.o.queue.length + 1 := Nat.mod_lt _ (by omega)
      unfold Ob.fin; omega
    have hp : foldO w.o u (summ u) = (⟨u, w.o.acked, summ u, w.o.queue.drop (u - w.o.base).toNat⟩, 0) := by
      unfold foldO
      rw [if_pos]
      simp only [Bool.and_eq_true, decide_eq_true_eq]
      exact ⟨⟨⟨hv, hu1⟩, hu2⟩, short_summ u⟩
    rw [hp]
    obtain ⟨d1, d2⟩ := ho.drop hu1 hu2
    have hf : (⟨u, w.o.acked, summ u, w.o.queue.drop (u - w.o.base).toNat⟩ : Ob).fin = w.o.fin := d1
    refine ⟨⟨by simp only; have := ho.b0; omega, ho.a0, by rw [hf]; exact ho.ae, by rw [hf]; exact hone.fk, d2, fun _ => rfl, short_summ u⟩, ?_, han, ?_, htn, hdl, by simp [hbad]⟩
    · simp only; rw [hf]; exact hi
    · simp only; rw [hf]; exact hsg
  split
  · simp only
    have hp : framesO w.o ((1 + a.2 % 20 : Nat) : Int) = ((framesAll w.o).take (1 + a.2 % 20), 0) := by
      unfold framesO
      rw [if_pos]
      · rfl
      · simp only [Bool.and_eq_true, decide_eq_true_eq]
        exact ⟨hv, by omega⟩
    rw [hp]
    refine ⟨hone, hi, han, fun f hf => ?_, htn, hdl, by simp [hbad]⟩
    rcases List.mem_append.1 hf with hf | hf
    · exact hsg f hf
    · exact ho.good f (List.mem_of_mem_take hf)
  split
  · split
    · rename_i hs
      simp only
      have hgf := hsg _ (getD_mem (d := frz) (Nat.mod_lt a.2 hs))
      obtain ⟨r1, r2, r3⟩ := recvI_inv hi hgf (by unfold maxOut; omega)
      have hnx := recvI_next (i := w.i) (f := w.sent.getD (a.2 % w.sent.length) frz)
      refine ⟨hone, r1, by simp only; omega, hsg, fun t ht => ?_, ?_, by simp only [hbad, r2]; rfl⟩
      · have h0 : 0 ≤ (recvI w.i (w.sent.getD (a.2 % w.sent.length) frz)).1.next := by
          have := r1.v
          simp only [validIn, Bool.and_eq_true, decide_eq_true_eq] at this
          exact this.1.1.1
        rcases List.mem_append.1 ht with ht | ht
        · have := htn t ht
          exact ⟨this.1, by simp only; omega⟩
        · simp only [List.mem_singleton] at ht
          exact ⟨by omega, by simp only; omega⟩
      · simp only
        rw [ordL_append, hdl]
        exact r3
    · exact ⟨hone, hi, han, hsg, htn, hdl, hbad⟩
  split
  · split
    · rename_i ht
      simp only
      have hm := htn _ (getD_mem (d := 0) (Nat.mod_lt a.2 ht))
      have hne := hi.ne
      obtain ⟨r1, r2, r3, r4⟩ := ackO_inv (n := w.told.getD (a.2 % w.told.length) 0) hone (by omega) hm.1 (by omega)
      refine ⟨r1, ?_, ?_, ?_, htn, hdl, by simp only [hbad, r2]; rfl⟩
      · simp only; rw [r3]; exact hi
      · simp only; rw [r4]; omega
      · simp only; rw [r3]; exact hsg
    · exact ⟨hone, hi, han, hsg, htn, hdl, hbad⟩
  · refine ⟨hone, ⟨?_, hi.ne, by simp⟩, han, hsg, htn, hdl, hbad⟩
    have := hi.v
    simp only [validIn, Bool.and_eq_true, decide_eq_true_eq] at this ⊢
    exact ⟨⟨this.1.1, by simp⟩, rfl⟩
theorem inv_lz : Inv lz 0 := by
  refine ⟨⟨Int.le_refl _, Int.le_refl _, Int.le_refl _, Int.le_refl _, ?_, ?_, rfl⟩, ⟨rfl, Int.le_refl _, ?_⟩, Int.le_refl _, ?_, ?_, rfl, rfl⟩
  · intro j b hj; simp [lz, oz] at hj
  · intro h; simp [lz, oz] at h
  · intro f hf; simp [lz] at hf
  · intro f hf; simp [lz] at hf
  · intro f hf; simp [lz] at hf
theorem acts_inv : ∀ (l : List (Nat × Nat)) (w : Line) (k : Nat), Inv w k → k + l.length ≤ 1000 → Inv (l.foldl actL w) (k + l.length)
  | [], w, k, h, _ => h
  | a :: l, w, k, h, hk => by
    simp only [List.length_cons] at hk
    have := acts_inv l (actL w a) (k + 1) (act_inv h (by omega)) (by omega)
    rw [show k + (a :: l).length = k + 1 + l.length by simp; omega]
    exact this
/-- The frames arrive one after the other. -/
def recvAll : Ib → List Fr → Ib × List Fr × Bool
  | i, [] => (i, [], true)
  | i, f :: l => if (recvI i f).2.2 = 0 then ((recvAll (recvI i f).1 l).1, (recvI i f).2.1 ++ (recvAll (recvI i f).1 l).2.1, (recvAll (recvI i f).1 l).2.2) else ((recvI i f).1, [], false)
theorem recvAll_inv {e : Int} (he : e ≤ maxOut) : ∀ (l : List Fr) (i : Ib), IInv i e → (∀ f ∈ l, Good e f) → IInv (recvAll i l).1 e ∧ (recvAll i l).2.2 = true ∧ ordL i.next (recvAll i l).2.1 = some (recvAll i l).1.next ∧ i.next ≤ (recvAll i l).1.next
  | [], i, hi, _ => ⟨hi, rfl, rfl, Int.le_refl _⟩
  | f :: l, i, hi, hg => by
    obtain ⟨r1, r2, r3⟩ := recvI_inv hi (hg f (by simp)) he
    have hn := recvI_next (i := i) (f := f)
    obtain ⟨s1, s2, s3, s4⟩ := recvAll_inv he l (recvI i f).1 r1 fun g hg' => hg g (by simp [hg'])
    simp only [recvAll, if_pos r2]
    refine ⟨s1, s2, ?_, by omega⟩
    rw [ordL_append, r3]
    exact s3
/-- A message whose turn it is, or was. -/
theorem recvI_past {i : Ib} {e : Int} {f : Fr} (h : IInv i e) (hf : Good e f) (he : e ≤ maxOut) (hs : f.sum = false) (hn : f.seq ≤ i.next) : f.seq + 1 ≤ (recvI i f).1.next := by
  obtain ⟨r1, r2, r3⟩ := recvI_inv h hf he
  unfold recvI at *
  split
  · split
    · rename_i h1
      simp [hs] at h1
      simp only; omega
    · rename_i h1
      simp [hs] at h1
      rw [if_neg (by omega)]
      have hge := rel_ge (if f.sum = true then f.seq else f.seq + 1) i.ahead
      simp [hs] at hge ⊢
      exact hge
  · rename_i hc
    rw [if_neg hc] at r2
    cases r2
theorem recvI_sum {i : Ib} {e : Int} {f : Fr} (h : IInv i e) (hf : Good e f) (he : e ≤ maxOut) (hs : f.sum = true) : f.seq ≤ (recvI i f).1.next := by
  obtain ⟨r1, r2, r3⟩ := recvI_inv h hf he
  unfold recvI at *
  split
  · split
    · rename_i h1
      simp [hs] at h1
      simp only; omega
    · rename_i h1
      rw [if_neg (by simp [hs])]
      have hge := rel_ge (if f.sum = true then f.seq else f.seq + 1) i.ahead
      simp [hs] at hge ⊢
      exact hge
  · rename_i hc
    rw [if_neg hc] at r2
    cases r2
theorem recvAll_msgs {e : Int} (he : e ≤ maxOut) : ∀ (l : List ByteArray) (n : Int) (i : Ib), IInv i e → n ≤ i.next → (∀ f ∈ msgs n l, Good e f) → n + l.length ≤ (recvAll i (msgs n l)).1.next
  | [], n, i, hi, hn, _ => by simp [msgs, recvAll]; exact hn
  | b :: l, n, i, hi, hn, hg => by
    have hgb := hg ⟨false, n, b⟩ (by simp [msgs])
    obtain ⟨r1, r2, r3⟩ := recvI_inv hi hgb he
    have hp := recvI_past hi hgb he rfl hn
    have := recvAll_msgs he l (n + 1) _ r1 hp fun f hf => hg f (by simp [msgs, hf])
    simp only [msgs, recvAll, if_pos r2]
    simp only [List.length_cons]
    push_cast
    omega
/-- The link catches up. -/
theorem catches {w : Line} {k : Nat} (h : Inv w k) (hk : k ≤ 1000) :
    (recvAll w.i (framesAll w.o)).2.2 = true ∧ (recvAll w.i (framesAll w.o)).1.next = w.o.fin ∧ ordL 0 (w.dl ++ (recvAll w.i (framesAll w.o)).2.1) = some (recvAll w.i (framesAll w.o)).1.next := by
  obtain ⟨ho, hi, han, hsg, htn, hdl, hbad⟩ := h
  have hmo : w.o.fin ≤ maxOut := by have := ho.fk; unfold maxOut; omega
  obtain ⟨s1, s2, s3, s4⟩ := recvAll_inv hmo (framesAll w.o) w.i hi ho.good
  refine ⟨s2, ?_, by rw [ordL_append, hdl]; exact s3⟩
  have hge : w.o.fin ≤ (recvAll w.i (framesAll w.o)).1.next := by
    have hgood := ho.good
    have hae := ho.ae
    have hm : w.o.base ≤ max w.o.acked w.o.base := by omega
    have hm2 : max w.o.acked w.o.base ≤ w.o.fin := by unfold Ob.fin at *; omega
    obtain ⟨d1, d2⟩ := ho.drop hm hm2
    unfold framesAll at hgood ⊢
    rw [← d1]
    by_cases hlt : w.o.acked < w.o.base
    · rw [if_pos hlt] at hgood ⊢
      have hgs := hgood ⟨true, w.o.base, w.o.summary⟩ (by simp)
      obtain ⟨r1, r2, r3⟩ := recvI_inv hi hgs hmo
      have hp := recvI_sum hi hgs hmo rfl
      simp only [List.cons_append, List.nil_append, recvAll, if_pos r2]
      exact recvAll_msgs hmo _ _ _ r1 (by simp only at hp; omega) fun f hf => hgood f (by simp [hf])
    · rw [if_neg hlt] at hgood ⊢
      exact recvAll_msgs hmo _ _ _ hi (by omega) fun f hf => hgood f (by simp [hf])
  have := s1.ne
  omega
end Link
