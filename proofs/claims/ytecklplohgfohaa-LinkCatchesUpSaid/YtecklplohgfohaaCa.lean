/-
  How a link catches up, step by step; rows beside one that grows. Conditions: none.
-/
import Derived.Test.YtecklplohgfohaaAw
namespace Go.Proofs.Ytecklplohgfohaa
set_option linter.unusedSimpArgs false
set_option linter.unusedVariables false
open Go.RowKit Link
theorem frames_all {w : Line} {k : Nat} (h : Link.Inv w k) (hk : k ≤ 100) : framesO w.o 1000 = (framesAll w.o, 0) ∧ (framesAll w.o).length ≤ 1000 := by
  have hv := h.o.valid (by omega)
  have hb := h.o.b0
  have hf := h.o.fk
  have hq : w.o.queue.length ≤ 100 := by unfold Ob.fin at hf; omega
  have hl : (framesAll w.o).length ≤ 1000 := by
    unfold framesAll
    rw [List.length_append, msgs_len]
    split <;> simp <;> omega
  refine ⟨?_, hl⟩
  unfold framesO
  rw [if_pos (by rw [hv]; simp)]
  rw [List.take_of_length_le (by show (framesAll w.o).length ≤ 1000; exact hl)]
theorem ack_done {w : Line} {k : Nat} (h : Link.Inv w k) (hk : k ≤ 100) : (ackO w.o w.o.fin).2 = 0 ∧ framesO (ackO w.o w.o.fin).1 1000 = ([], 0) ∧ WfO (ackO w.o w.o.fin).1 := by
  have ha := h.o.ae
  have ha0 := h.o.a0
  obtain ⟨r1, r2, r3, r4⟩ := ackO_inv (n := w.o.fin) h.o (by omega) (by omega) (by omega)
  generalize ackO w.o w.o.fin = R at *
  refine ⟨r2, ?_, ?_⟩
  · have hv := r1.valid (by omega)
    unfold framesO
    rw [if_pos (by rw [hv]; simp)]
    have hac : R.1.acked = R.1.fin := by rw [r4, r3]; omega
    have hfa : framesAll R.1 = [] := by
      unfold framesAll
      have hb : R.1.base ≤ R.1.acked := by rw [hac]; unfold Ob.fin; omega
      rw [if_neg (by omega), show max R.1.acked R.1.base = R.1.acked by omega, List.drop_of_length_le (by rw [hac]; unfold Ob.fin; omega)]
      rfl
    rw [hfa]
    rfl
  · refine ⟨wfI64 r1.b0 ?_, wfI64 r1.a0 ?_, ?_, fun s hq => ?_⟩
    · have := r1.fk; unfold Ob.fin at this; omega
    · have := r1.ae; have := r1.fk; omega
    · have hs := r1.ss; simp only [short, decide_eq_true_eq] at hs; unfold maxLen; omega
    · obtain ⟨j, hj⟩ := List.mem_iff_getElem?.1 hq
      rw [r1.q j s hj]; exact msg_wf _
/-- How far the frames have arrived. -/
structure Cat (w : Line) (F : List Fr) (j : Nat) (i' : Ib) (got : List Fr) : Prop where
  i : IInv i' w.o.fin
  a : (recvAll w.i F).1 = (recvAll i' (F.drop j)).1
  g : (recvAll w.i F).2.1 = got ++ (recvAll i' (F.drop j)).2.1
  len : got.length ≤ 65 * j
theorem Cat.start {w : Line} {k : Nat} (h : Link.Inv w k) (F : List Fr) : Cat w F 0 w.i [] := ⟨h.i, by simp, by simp, by simp⟩
theorem Cat.step {w : Line} {F : List Fr} {j : Nat} {i' : Ib} {got : List Fr} (h : Cat w F j i' got) (hj : j < F.length) (hg : Link.Good w.o.fin F[j]) (hm : w.o.fin ≤ 1000) :
    (recvI i' F[j]).2.2 = 0 ∧ Cat w F (j + 1) (recvI i' F[j]).1 (got ++ (recvI i' F[j]).2.1) := by
  obtain ⟨r1, r2, r3⟩ := recvI_inv h.i hg (by unfold maxOut; omega)
  have hl := recvI_lenA i' F[j]
  have hvl := (validIn_facts h.i.v).2.1
  have ha := h.a
  have hgg := h.g
  rw [List.drop_eq_getElem_cons hj] at ha hgg
  simp only [recvAll, if_pos r2] at ha hgg
  refine ⟨r2, r1, ha, by rw [hgg, List.append_assoc], ?_⟩
  have := h.len
  rw [List.length_append]
  omega
theorem Cat.fin {w : Line} {k : Nat} (hI : Link.Inv w k) (hk : k ≤ 100) {i' : Ib} {got : List Fr} (h : Cat w (framesAll w.o) (framesAll w.o).length i' got) : i'.next = w.o.fin ∧ ordL 0 (w.dl ++ got) = some i'.next := by
  obtain ⟨c1, c2, c3⟩ := catches hI (by omega)
  have ha := h.a
  have hgg := h.g
  rw [List.drop_length] at ha hgg
  simp only [recvAll, List.append_nil] at ha hgg
  rw [ha] at c2 c3
  rw [hgg] at c3
  exact ⟨c2, c3⟩
theorem iinv_wf {i : Ib} {e : Int} (h : IInv i e) (he : e ≤ 1000000) : WfI i := by
  have hv := (validIn_facts h.v).1
  exact ⟨wfI64 hv.1 hv.2, fun f hf2 => good_wf (h.g f hf2) he⟩
/-! ### rows beside one that grows -/
theorem Rd.grown {W W' : World} {A : Option Addr} {n : Nat} {xs : List Value} {row : Option Nat} (h : Rd W A n xs) (hg : W.grownBy W' row) (hn : ∀ g, row = some g → Away A g) : Rd W' A n xs :=
  ⟨h.len, fun k u hk => by
    obtain ⟨ad, e, hc⟩ := h.at_ k u hk
    refine ⟨ad, e, ?_⟩
    have hlt := World.block_lt_of_cell? _ _ hc
    rw [block_of_add] at hlt
    exact (World.cell?_of_block (hg.block _ (by rw [block_of_add]; exact hlt) (fun e2 => by rw [block_of_add] at e2; exact hn _ e2.symm ad e rfl))).trans hc⟩
theorem RdO.grown {W W' : World} {o : Ob} {A : Option Addr} {n c : Nat} {row : Option Nat} (h : RdO W o A n c) (hg : W.grownBy W' row) (hn : ∀ g, row = some g → Away A g) : RdO W' o A n c := ⟨h.nc, h.cm, h.len, h.rd.grown hg hn⟩
theorem RdF.grown {W W' : World} {l : List Fr} {A : Option Addr} {n : Nat} {row : Option Nat} (h : RdF W A n l) (hg : W.grownBy W' row) (hn : ∀ g, row = some g → Away A g) : RdF W' A n l := ⟨h.len, h.rd.grown hg hn⟩
theorem RdI.grown {W W' : World} {i : Ib} {A : Option Addr} {n c : Nat} {row : Option Nat} (h : RdI W i A n c) (hg : W.grownBy W' row) (hn : ∀ g, row = some g → Away A g) : RdI W' i A n c := ⟨h.nc, h.cm, h.rd.grown hg hn⟩
theorem away_of_own {A : Option Addr} {n c g : Nat} (h : (Value.slice A n c).ownBlock ≠ some g) : Away A g := fun ad e hc => h (by rw [e, ← hc]; rfl)
theorem DlOwn.below {B : Nat} {W W' : World} {w : Line} {q h s t d : Sl} (x : DlOwn B W w q h s t d) (hb : Below W.heap.size W W') : DlOwn B W' w q h s t d := ⟨ownsRow_below x.1 hb, x.2⟩
theorem DlIs.step {B : Nat} {W W' : World} {w w' : Line} {q h s t d q' h' s' t' d' : Sl} (x : DlOwn B W w q h s t d) (hD : DlIs W W' w w' q' h' s' t' d d') (hk : LnKA W W' q h s t d q' h' s' t' d') (hb : Below W.heap.size W W') (hB : B ≤ W.heap.size) : DlOwn B W' w' q' h' s' t' d' := by
  rcases hD with ⟨rfl, e⟩ | y
  · refine ⟨by rw [e]; exact ownsRow_below x.1 hb, fun g hg => ?_⟩
    have hlt := (World.ownsRow.lt x.1 g hg).2
    obtain ⟨a1, a2, a3, a4⟩ := x.2 g hg
    exact ⟨hk.q.away hlt a1, hk.h.away hlt a2, hk.s.away hlt a3, hk.t.away hlt a4⟩
  · exact ⟨ownsRow_lower y.1 hB, y.2⟩
theorem dlOwn_lz (B : Nat) (W : World) : DlOwn B W lz sl0 sl0 sl0 sl0 sl0 := ⟨World.ownsRow_nil W B _ 3, fun g hg => by cases hg⟩
end Go.Proofs.Ytecklplohgfohaa
