/-
  The check of 40 bits: exclusive or of messages, and bursts. No program here.
-/
import Derived.Test.YtnfmgklpibknfaaDoorCrc
namespace Go.Proofs.YtnfmgklpibknfaaDoor
set_option linter.unusedSimpArgs false
set_option linter.unusedVariables false
namespace Crc
theorem ofNat_xor40 (a b : Nat) (ha : a < 256) (hb : b < 256) : BitVec.ofNat 40 (a ^^^ b) = BitVec.ofNat 40 a ^^^ BitVec.ofNat 40 b := by
  apply BitVec.eq_of_toNat_eq
  rw [BitVec.toNat_xor, BitVec.toNat_ofNat, BitVec.toNat_ofNat, BitVec.toNat_ofNat, Nat.mod_eq_of_lt (by omega : a < 2 ^ 40), Nat.mod_eq_of_lt (by omega : b < 2 ^ 40)]
  have : a ^^^ b < 2 ^ 8 := Nat.xor_lt_two_pow (by omega) (by omega)
  exact Nat.mod_eq_of_lt (by omega)
theorem byteStep_xor (r s : BitVec 40) (x y : UInt8) : byteStep (r ^^^ s) (x ^^^ y) = byteStep r x ^^^ byteStep s y := by
  rw [byteStep_eq, byteStep_eq, byteStep_eq, ← Mi_xor, UInt8.toNat_xor, ofNat_xor40 _ _ x.toNat_lt y.toNat_lt, BitVec.shiftLeft_xor_distrib]
  refine congrArg (Mi 8) ?_
  generalize BitVec.ofNat 40 x.toNat <<< 32 = u
  generalize BitVec.ofNat 40 y.toNat <<< 32 = v
  apply BitVec.eq_of_getLsbD_eq
  intro i hi
  simp only [BitVec.getLsbD_xor]
  generalize r.getLsbD i = a
  generalize s.getLsbD i = b
  generalize u.getLsbD i = c
  generalize v.getLsbD i = d
  revert a b c d
  decide
/-- The bytes of a, with those of b beside them where there are any. -/
def xorL : List UInt8 → List UInt8 → List UInt8
  | [], _ => []
  | x :: a, [] => x :: xorL a []
  | x :: a, y :: b => (x ^^^ y) :: xorL a b
theorem length_xorL (a b : List UInt8) : (xorL a b).length = a.length := by
  induction a generalizing b with
  | nil => simp [xorL]
  | cons x a ih => cases b <;> simp [xorL, ih]
theorem xorL_at (a b : List UInt8) (i : Nat) (h : i < a.length) : (xorL a b)[i]? = some (if i < b.length then a.getD i 0 ^^^ b.getD i 0 else a.getD i 0) := by
  induction a generalizing b i with
  | nil => simp at h
  | cons x a ih =>
    cases b with
    | nil =>
      cases i with
      | zero => simp [xorL]
      | succ i => simp only [xorL, List.getElem?_cons_succ]; rw [ih [] i (by simpa using h)]; simp
    | cons y b =>
      cases i with
      | zero => simp [xorL]
      | succ i => simp only [xorL, List.getElem?_cons_succ]; rw [ih b i (by simpa using h)]; simp
theorem crcR_xorL (a b : List UInt8) (r s : BitVec 40) (h : a.length = b.length) : crcR (r ^^^ s) (xorL a b) = crcR r a ^^^ crcR s b := by
  induction a generalizing b r s with
  | nil => cases b with
    | nil => rfl
    | cons y b => simp at h
  | cons x a ih => cases b with
    | nil => simp at h
    | cons y b =>
      simp only [xorL, crcR_cons, byteStep_xor]
      exact ih b _ _ (by simpa using h)
theorem check_xor3 (a b c : List UInt8) (h1 : a.length = b.length) (h2 : a.length = c.length) : check (xorL (xorL a b) c) = check a ^^^ check b ^^^ check c := by
  unfold check
  have e : ones = (ones ^^^ ones) ^^^ ones := by simp
  have := crcR_xorL (xorL a b) c (ones ^^^ ones) ones (by rw [length_xorL]; exact h2)
  rw [← e, crcR_xorL a b _ _ h1] at this
  rw [this]
  generalize crcR ones a = x
  generalize crcR ones b = y
  generalize crcR ones c = z
  apply BitVec.eq_of_getLsbD_eq
  intro i hi
  simp only [BitVec.getLsbD_xor]
  generalize x.getLsbD i = x
  generalize y.getLsbD i = y
  generalize z.getLsbD i = z
  generalize ones.getLsbD i = o
  revert x y z o
  decide

/-! One bit of a message turned. -/
theorem bit_ok : ∀ j : Fin 8, (BitVec.ofNat 40 (2 ^ (7 - j.val)) <<< 32) = Mi (39 - j.val) 1#40 := by decide +kernel
theorem crcR_flip (l : List UInt8) (i j : Nat) (d : UInt8) (hi : i < l.length) (hj : j < 8) (hd : d.toNat = 2 ^ (7 - j)) (r : BitVec 40) :
    crcR r (l.set i (l[i] ^^^ d)) = crcR r l ^^^ Mi (8 * (l.length - i) + 39 - j) 1#40 := by
  have e : l = l.take i ++ l[i] :: l.drop (i + 1) := by simp
  have e2 : l.set i (l[i] ^^^ d) = l.take i ++ (l[i] ^^^ d) :: l.drop (i + 1) := by rw [List.set_eq_take_append_cons_drop, if_pos hi]
  have e1 : crcR r l = crcR r (l.take i ++ l[i] :: l.drop (i + 1)) := by rw [← e]
  rw [e2, e1, crcR_append, crcR_append, crcR_cons, crcR_cons]
  have hs : byteStep (crcR r (l.take i)) (l[i] ^^^ d) = Mi 8 (BitVec.ofNat 40 d.toNat <<< 32) ^^^ byteStep (crcR r (l.take i)) l[i] := by
    have h := byteStep_xor (crcR r (l.take i)) 0#40 l[i] d
    rw [BitVec.xor_zero] at h
    rw [h, byteStep_eq 0#40 d, BitVec.zero_xor, BitVec.xor_comm]
  have hb := bit_ok ⟨j, hj⟩
  simp only at hb
  rw [hs, crcR_xor, hd, hb, ← Mi_add, ← Mi_add, BitVec.xor_comm]
  congr 2
  simp only [List.length_drop]
  omega
/-- The first k bits of a pattern, the first one highest. -/
def vp (p : Nat) : Nat → Nat
  | 0 => 0
  | k + 1 => 2 * vp p k + (if p.testBit k then 1 else 0)
theorem vp_lt (p k : Nat) : vp p k < 2 ^ k := by
  induction k with
  | zero => simp [vp]
  | succ k ih => rw [vp, Nat.pow_succ]; split <;> omega
theorem M_small (n : Nat) (h : n < 2 ^ 39) : M (BitVec.ofNat 40 n) = BitVec.ofNat 40 (2 * n) := by
  have hm : (BitVec.ofNat 40 n).msb = false := by
    rw [BitVec.msb_eq_decide]
    simp only [BitVec.toNat_ofNat, decide_eq_false_iff_not]
    omega
  rw [M_shift _ hm]
  apply BitVec.eq_of_toNat_eq
  rw [BitVec.toNat_shiftLeft, BitVec.toNat_ofNat, BitVec.toNat_ofNat, Nat.shiftLeft_eq]
  omega
theorem odd40 (n : Nat) (h : 2 * n + 1 < 2 ^ 40) : BitVec.ofNat 40 (2 * n + 1) = BitVec.ofNat 40 (2 * n) ^^^ 1#40 := by
  apply BitVec.eq_of_toNat_eq
  rw [BitVec.toNat_xor, BitVec.toNat_ofNat, BitVec.toNat_ofNat, Nat.mod_eq_of_lt h, Nat.mod_eq_of_lt (by omega)]
  have : (1#40).toNat = 1 := rfl
  rw [this]
  apply Nat.eq_of_testBit_eq
  intro i
  rw [Nat.testBit_xor]
  cases i with
  | zero => simp [Nat.testBit_zero]
  | succ i =>
    rw [Nat.testBit_succ, Nat.testBit_succ, show (2 * n + 1) / 2 = n by omega, show 2 * n / 2 = n by omega]
    simp [Nat.testBit_succ]
/-- How far the register is off when the first k bits of the pattern are turned, m bits ahead of the end. -/
def off (p m k : Nat) : BitVec 40 := Mi (m - k + 40) (BitVec.ofNat 40 (vp p k))
theorem off_zero (p m : Nat) : off p m 0 = 0#40 := by simp [off, vp, Mi_zero]
theorem off_skip (p m k : Nat) (hk : k < 40) (hm : k < m) (h : p.testBit k = false) : off p m (k + 1) = off p m k := by
  have hv := vp_lt p k
  have h39 : (2 : Nat) ^ k ≤ 2 ^ 39 := Nat.pow_le_pow_right (by omega) (by omega)
  unfold off
  rw [vp, h]
  simp only [Bool.false_eq_true, if_false, Nat.add_zero]
  rw [← M_small _ (by omega), show m - k + 40 = (m - (k + 1) + 40) + 1 by omega, Mi_M]
  rfl
theorem off_flip (p m k : Nat) (hk : k < 40) (hm : k < m) (h : p.testBit k = true) : off p m (k + 1) = off p m k ^^^ Mi (m - k + 39) 1#40 := by
  have hv := vp_lt p k
  have h39 : (2 : Nat) ^ k ≤ 2 ^ 39 := Nat.pow_le_pow_right (by omega) (by omega)
  unfold off
  rw [vp, h]
  simp only [if_true]
  rw [odd40 _ (by omega), ← M_small _ (by omega), Mi_xor, show m - k + 40 = (m - (k + 1) + 40) + 1 by omega, Mi_M, show m - (k + 1) + 40 = m - k + 39 by omega]
  rfl
theorem off_none (p m k : Nat) (hk : k ≤ 40) (h : off p m k = 0#40) : vp p k = 0 := by
  have hv := vp_lt p k
  have h40 : (2 : Nat) ^ k ≤ 2 ^ 40 := Nat.pow_le_pow_right (by omega) hk
  have := Mi_inj_zero _ _ h
  have := congrArg BitVec.toNat this
  simp only [BitVec.toNat_ofNat] at this
  have e : vp p k % 2 ^ 40 = 0 := by simpa using this
  rwa [Nat.mod_eq_of_lt (by omega)] at e
end Crc
end Go.Proofs.YtnfmgklpibknfaaDoor
