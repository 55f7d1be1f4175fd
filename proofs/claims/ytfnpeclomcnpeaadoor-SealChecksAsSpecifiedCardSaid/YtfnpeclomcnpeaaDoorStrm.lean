/-
  A stream of SHA-256 on lists: the state, the last block, the length. No program here.
-/
import Derived.Test.YtfnpeclomcnpeaaDoorSha
namespace Go.Proofs.YtfnpeclomcnpeaaDoor
set_option linter.unusedSimpArgs false
set_option linter.unusedVariables false
namespace Sha
/-- The first bytes of the block b are what is left of m behind its whole blocks. -/
structure Tail (m b : List UInt8) : Prop where
  len : b.length = 64
  eq : b.take (m.length % 64) = m.drop (64 * (m.length / 64))
theorem Tail.nil (b : List UInt8) (h : b.length = 64) : Tail [] b := ⟨h, by simp⟩
/-- b, with x laid at a. -/
def splice (b x : List UInt8) (a : Nat) : List UInt8 := b.take a ++ x ++ b.drop (a + x.length)
theorem length_splice (b x : List UInt8) (a : Nat) (h : a + x.length ≤ b.length) : (splice b x a).length = b.length := by
  simp [splice]; omega
theorem Tail.splice {m b : List UInt8} (h : Tail m b) (x : List UInt8) (hx : m.length % 64 + x.length ≤ 64) : Tail (m ++ x) (splice b x (m.length % 64)) := by
  refine ⟨by rw [length_splice _ _ _ (by rw [h.len]; exact hx), h.len], ?_⟩
  have hl := h.len
  rw [List.length_append]
  by_cases hf : m.length % 64 + x.length = 64
  · rw [show (m.length + x.length) % 64 = 0 by omega, List.drop_eq_nil_of_le (by simp; omega)]
    simp
  · rw [show (m.length + x.length) % 64 = m.length % 64 + x.length by omega, show (m.length + x.length) / 64 = m.length / 64 by omega,
      List.drop_append_of_le_length (by omega), ← h.eq]
    unfold Sha.splice
    rw [List.take_append_of_le_length (by simp; omega), List.take_of_length_le (by simp; omega)]
theorem stN_full {m b : List UInt8} (h : Tail m b) (x : List UInt8) (hx : m.length % 64 + x.length = 64) :
    stN (m ++ x) ((m ++ x).length / 64) = comp (stN m (m.length / 64)) (splice b x (m.length % 64)) := by
  have hl := h.len
  rw [List.length_append, show (m.length + x.length) / 64 = m.length / 64 + 1 by omega, stN, stN_append _ _ _ (by omega)]
  congr 1
  rw [List.drop_append_of_le_length (by omega), ← h.eq]
  unfold splice
  rw [List.drop_eq_nil_of_le (by omega), List.append_nil, List.take_of_length_le (by simp; omega)]
theorem stN_part (m x : List UInt8) (hx : m.length % 64 + x.length < 64) : stN (m ++ x) ((m ++ x).length / 64) = stN m (m.length / 64) := by
  rw [List.length_append, show (m.length + x.length) / 64 = m.length / 64 by omega, stN_append _ _ _ (by omega)]
/-- The padding while it is made. -/
def padZ (i : Nat) : List UInt8 := 128 :: List.replicate i 0
theorem padZ_succ (i : Nat) : padZ (i + 1) = padZ i ++ [0] := by simp [padZ, List.replicate_succ']
theorem length_padZ (i : Nat) : (padZ i).length = i + 1 := by simp [padZ]
theorem zeros_lt (n : Nat) : zeros n < 64 := Nat.mod_lt _ (by decide)
theorem zeros_done (n : Nat) : (n + (zeros n + 1)) % 64 = 56 := by unfold zeros; omega
theorem zeros_not (n i : Nat) (h : i < zeros n) : (n + (i + 1)) % 64 ≠ 56 := by unfold zeros at h; omega
theorem pad_eq (n : Nat) : pad n = padZ (zeros n) ++ lenBytes n 8 := rfl
theorem lenBytes_succ (n i : Nat) : lenBytes n (i + 1) = lenBytes n i ++ [lenByte n i] := rfl
theorem dig_succ (s : S8) (i : Nat) : dig s (i + 1) = dig s i ++ [digByte s i] := rfl
end Sha
end Go.Proofs.YtfnpeclomcnpeaaDoor
