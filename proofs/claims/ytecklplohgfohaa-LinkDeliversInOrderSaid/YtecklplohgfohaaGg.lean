/-
  The reference's Receive: whole. Conditions: at most 100000 frames.
-/
import Derived.Test.YtecklplohgfohaaGb
import Derived.Test.YtecklplohgfohaaGc
import Derived.Test.YtecklplohgfohaaGp
import Derived.Test.YtecklplohgfohaaGe
import Derived.Test.YtecklplohgfohaaGf
namespace Go.Proofs.Ytecklplohgfohaa
set_option linter.unusedSimpArgs false
set_option linter.unusedVariables false
open Go.RowKit Link
theorem refRecv_any (i : Ib) (A : Option Addr) (n c : Nat) (f : Fr) (w : World) (hn : n ≤ 100000) (hr : RdI w i A n c) (hi : WfI i) (hf : WfF f) :
    Calls Try.prog 26 #[ibV i A n c, frV f] w (GotIs (recvI i f) w) := by
  obtain ⟨sm, sq, bd⟩ := f
  cases hv : validIn i
  · rw [recvI_bad (.inl hv)]; exact got_bad0 i A n c sm sq bd w hn hr hi hf hv
  by_cases s0 : sq < 0
  · rw [recvI_bad (.inr (.inl s0))]; exact got_bad1 i A n c sm sq bd w hn hr hi hf hv s0
  by_cases s1 : 1099511627776 < sq
  · rw [recvI_bad (.inr (.inr (.inl s1)))]; exact got_bad2 i A n c sm sq bd w hn hr hi hf hv s0 s1
  by_cases s2 : 65536 < bd.size
  · rw [recvI_bad (.inr (.inr (.inr s2)))]; exact got_bad3 i A n c sm sq bd w hn hr hi hf hv s0 s1 s2
  rw [recvI_good hv s0 s1 s2]
  dsimp only
  cases sm
  · by_cases h1 : sq < i.next
    · rw [if_pos (.inl h1)]; exact got_old0 i A n c sq bd w hn hr hi hf hv s0 s1 s2 h1
    rw [if_neg (by simp; omega)]
    by_cases h3 : i.next < sq
    · rw [if_pos ⟨rfl, h3⟩, hr.rd.len]
      by_cases h5 : n < 64
      · rw [if_pos h5]; exact got_room i A n c sq bd w hn hr hi hf hv s0 s1 s2 h3 h5
      · rw [if_neg h5]; exact got_full i A n c sq bd w hn hr hi hf hv s0 s1 s2 h3 h5
    · rw [if_neg (by simp; omega)]
      exact got_dele i A n c sq bd w hn hr hi hf _ hv s0 s1 s2 (by omega) (by simp)
  · by_cases h1 : sq ≤ i.next
    · rw [if_pos (by simp; omega)]; exact got_old1 i A n c sq bd w hn hr hi hf hv s0 s1 s2 h1
    rw [if_neg (by simp; omega), if_neg (by simp)]
    exact got_delf i A n c sq bd w hn hr hi hf _ hv s0 s1 s2 (by omega) (by simp)
end Go.Proofs.Ytecklplohgfohaa
