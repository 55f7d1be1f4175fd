/-
  These texts, joined.
  Names of 128 bits, prefixes and halves in plain Lean. Conditions: none.
  Slices whose elements take k cells each: loads, append, elements. Conditions: none.
  What a load yields behind '&&' and '||', where it is wanted. Conditions: none.
  Stores into blocks that are known whole, appends, rows that lie elsewhere: as steps of a walk, of no program. Conditions: none.
  Two arrays of bytes, held against each other by the model's '==' and '!='. Conditions: none.
  Digests as numbers of 128 bits: values, rows, slices; Leaf, Node and the root of nothing, the program's and the reference's. Conditions: the tables of constants stand.
  Hash trees, plainly: roots, proofs, paths that are gone through, several elements, peaks; proofs are accepted, and bind; peaks grow. Conditions: none.
  The number of digits 1 of a number of 64 bits, as the library reckons it. Conditions: none.
-/
import Derived.Test.YtgggpnjnhhkmgaaDoorB1
import Derived.ArgAppend
import Derived.Lib.Hide
import Derived.Deep.DeepCutAuto
import Derived.Deep.CutBlock
import Derived.ChangeKeysEq
import Derived.Laws.StructEq
import Derived.Test.YtgggpnjnhhkmgaaDoorB3
namespace Exch
set_option linter.unusedSimpArgs false
set_option linter.unusedVariables false
/-! Names as numbers of 128 bits. -/
def val (d : List UInt8) : Nat := d.foldl (fun a b => a * 256 + b.toNat) 0
theorem val_go (d : List UInt8) (a : Nat) : d.foldl (fun a b => a * 256 + b.toNat) a = a * 256 ^ d.length + val d := by
  induction d generalizing a with
  | nil => simp [val]
  | cons u d ih =>
    unfold val
    simp only [List.foldl_cons, List.length_cons]
    rw [ih, ih (0 * 256 + u.toNat), Nat.pow_succ, Nat.zero_mul, Nat.zero_add, Nat.add_mul, Nat.mul_assoc a 256, Nat.mul_comm 256 (256 ^ d.length)]
    omega
theorem val_cons (u : UInt8) (d : List UInt8) : val (u :: d) = u.toNat * 256 ^ d.length + val d := by
  have := val_go d u.toNat
  unfold val at this ⊢
  simp only [List.foldl_cons]
  rw [show 0 * 256 + u.toNat = u.toNat by omega]
  exact this
theorem val_lt (d : List UInt8) : val d < 256 ^ d.length := by
  induction d with
  | nil => simp [val]
  | cons u d ih =>
    rw [val_cons, List.length_cons, Nat.pow_succ]
    have hu : u.toNat ≤ 255 := by have := u.toNat_lt; omega
    have h2 : u.toNat * 256 ^ d.length ≤ 255 * 256 ^ d.length := Nat.mul_le_mul_right _ hu
    omega
theorem val_inj : ∀ (a b : List UInt8), a.length = b.length → val a = val b → a = b
  | [], [], _, _ => rfl
  | u :: a, v :: b, hl, h => by
    simp only [List.length_cons, Nat.add_right_cancel_iff] at hl
    rw [val_cons, val_cons, hl] at h
    have ha := val_lt a
    have hb := val_lt b
    rw [hl] at ha
    have hd : ∀ x y : Nat, y < 256 ^ b.length → (x * 256 ^ b.length + y) / 256 ^ b.length = x := fun x y hy => by
      rw [Nat.mul_comm, Nat.mul_add_div (Nat.pow_pos (by omega)), Nat.div_eq_of_lt hy]; rfl
    have h1 := hd u.toNat (val a) ha
    have h2 := hd v.toNat (val b) hb
    rw [h] at h1
    have e : u.toNat = v.toNat := h1.symm.trans h2
    have e2 : u = v := UInt8.toNat_inj.1 e
    subst e2
    rw [val_inj a b hl (by omega)]
/-- The order of two rows of bytes. -/
def ltD : List UInt8 → List UInt8 → Bool
  | _, [] => false
  | [], _ :: _ => true
  | a :: x, b :: y => if a = b then ltD x y else decide (a < b)
theorem ltD_val : ∀ (a b : List UInt8), a.length = b.length → ltD a b = decide (val a < val b)
  | [], [], _ => by simp [ltD, val]
  | u :: a, v :: b, hl => by
    simp only [List.length_cons, Nat.add_right_cancel_iff] at hl
    have ih := ltD_val a b hl
    have ha := val_lt a
    have hb := val_lt b
    rw [hl] at ha
    rw [val_cons, val_cons, hl]
    simp only [ltD]
    split
    · rename_i e
      subst e
      rw [ih]
      congr 1
      apply propext
      omega
    · rename_i e
      have hne : u.toNat ≠ v.toNat := fun h => e (UInt8.toNat_inj.1 h)
      congr 1
      apply propext
      rw [UInt8.lt_iff_toNat_lt]
      constructor
      · intro h
        have : (u.toNat + 1) * 256 ^ b.length ≤ v.toNat * 256 ^ b.length := Nat.mul_le_mul_right _ h
        rw [Nat.add_mul] at this
        omega
      · intro h
        refine Nat.lt_of_not_le fun hc => ?_
        have h3 : v.toNat + 1 ≤ u.toNat := by omega
        have : (v.toNat + 1) * 256 ^ b.length ≤ u.toNat * 256 ^ b.length := Nat.mul_le_mul_right _ h3
        rw [Nat.add_mul] at this
        omega
/-- The bytes of a number. -/
def dgN : Nat → Nat → List UInt8
  | 0, _ => []
  | k + 1, n => UInt8.ofNat (n / 256 ^ k % 256) :: dgN k n
abbrev dg (n : Nat) : List UInt8 := dgN 16 n
theorem dgN_len (k n : Nat) : (dgN k n).length = k := by induction k with | zero => rfl | succ k ih => simp [dgN, ih]
theorem val_dgN (k n : Nat) : val (dgN k n) = n % 256 ^ k := by
  induction k with
  | zero => simp [dgN, val, Nat.mod_one]
  | succ k ih =>
    rw [dgN, val_cons, ih, dgN_len, UInt8.toNat_ofNat']
    have : n / 256 ^ k % 256 % 2 ^ 8 = n / 256 ^ k % 256 := by
      have := Nat.mod_lt (n / 256 ^ k) (show 0 < 256 by omega)
      omega
    rw [this, Nat.pow_succ, Nat.mod_mul]
    rw [Nat.mul_comm]
    omega
theorem val_dg {n : Nat} (h : n < 256 ^ 16) : val (dg n) = n := by rw [val_dgN, Nat.mod_eq_of_lt h]
theorem dg_len (n : Nat) : (dg n).length = 16 := dgN_len 16 n
theorem dg_val {d : List UInt8} (h : d.length = 16) : dg (val d) = d := by
  apply val_inj
  · rw [dg_len, h]
  · rw [val_dg]
    have := val_lt d
    rwa [h] at this
theorem dg_inj {a b : Nat} (ha : a < 256 ^ 16) (hb : b < 256 ^ 16) (h : dg a = dg b) : a = b := by rw [← val_dg ha, ← val_dg hb, h]
theorem val_split (d : List UInt8) (u : UInt8) (m : Nat) (hm : m ≤ 8 * d.length) : val (u :: d) / 2 ^ m = u.toNat * 2 ^ (8 * d.length - m) + val d / 2 ^ m := by
  rw [val_cons]
  have e : (256 : Nat) ^ d.length = 2 ^ m * 2 ^ (8 * d.length - m) := by
    rw [← Nat.pow_add, show m + (8 * d.length - m) = 8 * d.length by omega, Nat.pow_mul]
  rw [e, ← Nat.mul_assoc, Nat.mul_comm u.toNat, Nat.mul_assoc, Nat.mul_add_div (Nat.pow_pos (by omega))]
/-! Masks: the first bits of a row of bytes. -/
def maskB (u : UInt8) (h : Nat) : UInt8 := UInt8.ofNat (u.toNat / 2 ^ (8 - h) * 2 ^ (8 - h))
def maskL : List UInt8 → Nat → List UInt8
  | [], _ => []
  | u :: d, b => (if 8 ≤ b then u else maskB u b) :: maskL d (b - 8)
theorem maskL_len (d : List UInt8) (b : Nat) : (maskL d b).length = d.length := by induction d generalizing b with | nil => rfl | cons u d ih => simp [maskL, ih]
theorem maskB_nat (u : UInt8) (h : Nat) : (maskB u h).toNat = u.toNat / 2 ^ (8 - h) * 2 ^ (8 - h) := by
  unfold maskB
  rw [UInt8.toNat_ofNat']
  have h1 := Nat.div_mul_le_self u.toNat (2 ^ (8 - h))
  have h2 := u.toNat_lt
  exact Nat.mod_eq_of_lt (by omega)
theorem val_mask0 (d : List UInt8) : val (maskL d 0) = 0 := by
  induction d with
  | nil => rfl
  | cons u d ih =>
    simp only [maskL]
    rw [if_neg (by omega), val_cons, show (0 - 8 : Nat) = 0 from rfl, ih, maskB_nat]
    have h2 := u.toNat_lt
    rw [Nat.div_eq_of_lt (by simpa using h2)]
    simp
theorem val_maskL : ∀ (d : List UInt8) (b : Nat), b ≤ 8 * d.length → val (maskL d b) = val d / 2 ^ (8 * d.length - b) * 2 ^ (8 * d.length - b)
  | [], b, h => by simp [maskL, val]
  | u :: d, b, h => by
    simp only [List.length_cons] at h ⊢
    simp only [maskL]
    by_cases hb : 8 ≤ b
    · rw [if_pos hb, val_cons, val_maskL d (b - 8) (by omega), maskL_len]
      have e : 8 * (d.length + 1) - b = 8 * d.length - (b - 8) := by omega
      rw [e, val_split d u _ (by omega), Nat.add_mul, Nat.mul_assoc, ← Nat.pow_add, show 8 * d.length - (8 * d.length - (b - 8)) + (8 * d.length - (b - 8)) = 8 * d.length by omega]
      rw [Nat.pow_mul]
    · rw [if_neg hb, show b - 8 = 0 by omega, val_cons, val_mask0, maskB_nat, maskL_len]
      have hx := val_lt d
      have e : 8 * (d.length + 1) - b = 8 * d.length + (8 - b) := by omega
      rw [e, Nat.pow_add, ← Nat.div_div_eq_div_mul]
      have e2 : (2 : Nat) ^ (8 * d.length) = 256 ^ d.length := by rw [Nat.pow_mul]
      have e3 : val (u :: d) / 2 ^ (8 * d.length) = u.toNat := by
        rw [val_cons, e2, Nat.mul_comm, Nat.mul_add_div (Nat.pow_pos (by omega)), Nat.div_eq_of_lt hx]; rfl
      rw [e3, e2]
      rw [Nat.add_zero, Nat.mul_assoc, Nat.mul_comm (2 ^ (8 - b))]
/-- A byte of a row, out of its number. -/
theorem val_get : ∀ (d : List UInt8) (j : Nat) (h : j < d.length), (d[j]).toNat = val d / 256 ^ (d.length - 1 - j) % 256
  | u :: d, 0, h => by
    have hx := val_lt d
    simp only [List.getElem_cons_zero, List.length_cons, Nat.add_sub_cancel, Nat.sub_zero]
    rw [val_cons, Nat.mul_comm, Nat.mul_add_div (Nat.pow_pos (by omega)), Nat.div_eq_of_lt hx, Nat.add_zero, Nat.mod_eq_of_lt u.toNat_lt]
  | u :: d, j + 1, h => by
    simp only [List.length_cons, Nat.add_lt_add_iff_right] at h
    simp only [List.getElem_cons_succ, List.length_cons]
    rw [val_get d j h, show d.length + 1 - 1 - (j + 1) = d.length - 1 - j by omega]
    have e256 : ∀ k, (256 : Nat) ^ k = 2 ^ (8 * k) := fun k => by rw [Nat.pow_mul]
    rw [e256, val_split d u _ (by omega)]
    have e : 8 * d.length - 8 * (d.length - 1 - j) = 8 * (j + 1) := by omega
    rw [e, show 8 * (j + 1) = 8 * j + 8 by omega, Nat.pow_add, ← Nat.mul_assoc]
    omega
/-- A bit of a row. -/
def bitD (d : List UInt8) (k : Nat) : Bool := ((d.getD (k / 8) 0).toNat / 2 ^ (7 - k % 8)) % 2 == 1
theorem bitD_val {d : List UInt8} {k : Nat} (h : k < 8 * d.length) : bitD d k = (val d).testBit (8 * d.length - 1 - k) := by
  unfold bitD
  have hj : k / 8 < d.length := by omega
  rw [List.getD_eq_getElem?_getD, List.getElem?_eq_getElem hj, Option.getD_some, val_get d _ hj]
  rw [Nat.testBit_eq_decide_div_mod_eq]
  have e256 : (256 : Nat) ^ (d.length - 1 - k / 8) = 2 ^ (8 * (d.length - 1 - k / 8)) := by rw [Nat.pow_mul]
  rw [e256]
  have e : 8 * d.length - 1 - k = 8 * (d.length - 1 - k / 8) + (7 - k % 8) := by omega
  rw [e, Nat.pow_add, ← Nat.div_div_eq_div_mul]
  generalize val d / 2 ^ (8 * (d.length - 1 - k / 8)) = x
  have h8 : (256 : Nat) = 2 ^ (7 - k % 8) * 2 ^ (k % 8 + 1) := by rw [← Nat.pow_add, show 7 - k % 8 + (k % 8 + 1) = 8 by omega]
  rw [h8, Nat.mod_mul_right_div_self]
  have h9 : (2 : Nat) ^ (k % 8 + 1) = 2 * 2 ^ (k % 8) := by rw [Nat.pow_succ, Nat.mul_comm]
  rw [h9, Nat.mod_mul_right_mod]
  rfl
/-! Prefixes. -/
structure Px where
  v : Nat
  len : Nat
deriving DecidableEq
def under (p : Px) (n : Nat) : Bool := n / 2 ^ (128 - p.len) == p.v / 2 ^ (128 - p.len)
structure Right (p : Px) : Prop where
  len : p.len ≤ 128
  lt : p.v < 2 ^ 128
  z : p.v % 2 ^ (128 - p.len) = 0
/-- .. as the program has it: the masked name is the prefix's bits. -/
theorem under_mask {p : Px} (hp : Right p) (n : Nat) : (n / 2 ^ (128 - p.len) * 2 ^ (128 - p.len) = p.v) ↔ under p n = true := by
  unfold under
  rw [beq_iff_eq]
  have hpos : 0 < 2 ^ (128 - p.len) := Nat.pow_pos (by omega)
  have hv : p.v / 2 ^ (128 - p.len) * 2 ^ (128 - p.len) = p.v := Nat.div_mul_cancel (Nat.dvd_of_mod_eq_zero hp.z)
  constructor
  · intro h
    rw [← h, Nat.mul_div_cancel _ hpos]
  · intro h
    rw [h, hv]
theorem right_mask {p : Px} (hv : p.v < 2 ^ 128) (hl : p.len ≤ 128) : (p.v / 2 ^ (128 - p.len) * 2 ^ (128 - p.len) = p.v) ↔ Right p := by
  constructor
  · intro h
    exact ⟨hl, hv, by rw [← h]; exact Nat.mul_mod_left _ _⟩
  · intro h
    exact Nat.div_mul_cancel (Nat.dvd_of_mod_eq_zero h.z)
/-- .. as the specification has it: bit by bit. -/
theorem under_bits {p : Px} (hl : p.len ≤ 128) (hv : p.v < 2 ^ 128) {n : Nat} (hn : n < 2 ^ 128) : (∀ k, k < p.len → p.v.testBit (127 - k) = n.testBit (127 - k)) ↔ under p n = true := by
  unfold under
  rw [beq_iff_eq]
  constructor
  · intro h
    apply Nat.eq_of_testBit_eq
    intro i
    rw [Nat.testBit_div_two_pow, Nat.testBit_div_two_pow]
    by_cases hi : i < p.len
    · have := h (p.len - 1 - i) (by omega)
      rw [show 127 - (p.len - 1 - i) = i + (128 - p.len) by omega] at this
      exact this.symm
    · rw [Nat.testBit_lt_two_pow (Nat.lt_of_lt_of_le hn (Nat.pow_le_pow_right (by omega) (by omega))), Nat.testBit_lt_two_pow (Nat.lt_of_lt_of_le hv (Nat.pow_le_pow_right (by omega) (by omega)))]
  · intro h k hk
    have h2 := congrArg (fun x => x.testBit (p.len - 1 - k)) h
    simp only [Nat.testBit_div_two_pow] at h2
    rw [show p.len - 1 - k + (128 - p.len) = 127 - k by omega] at h2
    exact h2.symm
theorem right_bits {p : Px} (hl : p.len ≤ 128) (hv : p.v < 2 ^ 128) : (∀ k, p.len ≤ k → k < 128 → p.v.testBit (127 - k) = false) ↔ Right p := by
  constructor
  · intro h
    refine ⟨hl, hv, ?_⟩
    apply Nat.eq_of_testBit_eq
    intro i
    rw [Nat.testBit_mod_two_pow, Nat.zero_testBit]
    by_cases hi : i < 128 - p.len
    · have := h (127 - i) (by omega) (by omega)
      rw [show 127 - (127 - i) = i by omega] at this
      rw [this]; simp
    · simp [hi]
  · intro h k h1 h2
    have h3 := congrArg (fun x => x.testBit (127 - k)) h.z
    simp only [Nat.testBit_mod_two_pow, Nat.zero_testBit] at h3
    simpa [show 127 - k < 128 - p.len by omega] using h3
/-! Halves. -/
def half (p : Px) (second : Bool) : Px := ⟨if second then p.v + 2 ^ (127 - p.len) else p.v, p.len + 1⟩
theorem Right.lt2 {p : Px} (h : Right p) (hl : p.len ≤ 127) : p.v + 2 ^ (127 - p.len) < 2 ^ 128 := by
  obtain ⟨c, hc⟩ := Nat.dvd_of_mod_eq_zero h.z
  have e : (2 : Nat) ^ 128 = 2 ^ (128 - p.len) * 2 ^ p.len := by rw [← Nat.pow_add, show 128 - p.len + p.len = 128 by omega]
  have hv := h.lt
  rw [hc, e] at hv
  have hcl : c < 2 ^ p.len := Nat.lt_of_mul_lt_mul_left hv
  have h2 : 2 ^ (128 - p.len) * (c + 1) ≤ 2 ^ (128 - p.len) * 2 ^ p.len := Nat.mul_le_mul_left _ hcl
  have h3 : (2 : Nat) ^ (128 - p.len) = 2 * 2 ^ (127 - p.len) := by rw [show 128 - p.len = (127 - p.len) + 1 by omega, Nat.pow_succ, Nat.mul_comm]
  have h4 : 0 < 2 ^ (127 - p.len) := Nat.pow_pos (by omega)
  rw [Nat.mul_add] at h2
  rw [hc, e]
  omega
theorem half_right {p : Px} (h : Right p) (hl : p.len ≤ 127) (b : Bool) : Right (half p b) := by
  have h3 : (2 : Nat) ^ (128 - p.len) = 2 * 2 ^ (127 - p.len) := by rw [show 128 - p.len = (127 - p.len) + 1 by omega, Nat.pow_succ, Nat.mul_comm]
  have hz : p.v % 2 ^ (127 - p.len) = 0 := by
    have hz := h.z
    rw [h3, Nat.mul_comm] at hz
    have := Nat.mod_mul_right_mod p.v (2 ^ (127 - p.len)) 2
    rw [hz] at this
    rw [← this]; simp
  have e : 128 - (p.len + 1) = 127 - p.len := by omega
  cases b
  · exact ⟨by simp [half]; omega, by simpa [half] using h.lt, by simp only [half]; rw [e]; simpa using hz⟩
  · refine ⟨by simp [half]; omega, by simpa [half] using h.lt2 hl, ?_⟩
    simp only [half]
    rw [e]
    simp [Nat.add_mod, hz]
theorem under_half {p : Px} (h : Right p) (hl : p.len ≤ 127) (n : Nat) : under p n = (under (half p false) n || under (half p true) n) ∧ ¬ (under (half p false) n = true ∧ under (half p true) n = true) := by
  have h3 : (2 : Nat) ^ (128 - p.len) = 2 ^ (127 - p.len) * 2 := by rw [show 128 - p.len = (127 - p.len) + 1 by omega, Nat.pow_succ]
  have hpos : 0 < 2 ^ (127 - p.len) := Nat.pow_pos (by omega)
  obtain ⟨c, hc⟩ := Nat.dvd_of_mod_eq_zero h.z
  have e : 128 - (p.len + 1) = 127 - p.len := by omega
  have hv1 : p.v / 2 ^ (127 - p.len) = 2 * c := by rw [hc, h3, Nat.mul_assoc, Nat.mul_div_cancel_left _ hpos]
  have hv2 : (p.v + 2 ^ (127 - p.len)) / 2 ^ (127 - p.len) = 2 * c + 1 := by rw [Nat.add_div_right _ hpos, hv1]
  have hv3 : p.v / 2 ^ (128 - p.len) = c := by rw [hc, Nat.mul_div_cancel_left _ (Nat.pow_pos (by omega))]
  have hn : n / 2 ^ (128 - p.len) = n / 2 ^ (127 - p.len) / 2 := by rw [h3, Nat.div_div_eq_div_mul]
  simp only [under, half, e, Bool.false_eq_true, if_false, if_true, hv1, hv2, hv3, hn]
  generalize n / 2 ^ (127 - p.len) = m
  constructor
  · rw [Bool.eq_iff_iff]
    simp only [beq_iff_eq, Bool.or_eq_true]
    omega
  · simp only [beq_iff_eq]; omega
theorem half_order {p : Px} (h : Right p) (hl : p.len ≤ 127) {a b : Nat} (ha : under (half p false) a = true) (hb : under (half p true) b = true) : a < b := by
  have hpos : 0 < 2 ^ (127 - p.len) := Nat.pow_pos (by omega)
  have h3 : (2 : Nat) ^ (128 - p.len) = 2 ^ (127 - p.len) * 2 := by rw [show 128 - p.len = (127 - p.len) + 1 by omega, Nat.pow_succ]
  obtain ⟨c, hc⟩ := Nat.dvd_of_mod_eq_zero h.z
  have e : 128 - (p.len + 1) = 127 - p.len := by omega
  have hv1 : p.v / 2 ^ (127 - p.len) = 2 * c := by rw [hc, h3, Nat.mul_assoc, Nat.mul_div_cancel_left _ hpos]
  have hv2 : (p.v + 2 ^ (127 - p.len)) / 2 ^ (127 - p.len) = 2 * c + 1 := by rw [Nat.add_div_right _ hpos, hv1]
  simp only [under, half, e, Bool.false_eq_true, if_false, if_true, hv1, hv2, beq_iff_eq] at ha hb
  refine Nat.lt_of_not_le fun hc => ?_
  have := Nat.div_le_div_right (c := 2 ^ (127 - p.len)) hc
  omega
/-- The names under a prefix lie together. -/
theorem under_range {p : Px} (h : Right p) (n : Nat) : under p n = decide (p.v ≤ n ∧ n < p.v + 2 ^ (128 - p.len)) := by
  have hpos : 0 < 2 ^ (128 - p.len) := Nat.pow_pos (by omega)
  obtain ⟨c, hc⟩ := Nat.dvd_of_mod_eq_zero h.z
  unfold under
  rw [Bool.eq_iff_iff, beq_iff_eq, decide_eq_true_eq, hc, Nat.mul_div_cancel_left _ hpos]
  constructor
  · intro h2
    have h3 := Nat.div_add_mod n (2 ^ (128 - p.len))
    have h4 := Nat.mod_lt n hpos
    rw [h2] at h3
    omega
  · rintro ⟨h1, h2⟩
    have h3 : 2 ^ (128 - p.len) * (c + 1) = 2 ^ (128 - p.len) * c + 2 ^ (128 - p.len) := by rw [Nat.mul_add, Nat.mul_one]
    rw [← h3] at h2
    apply Nat.le_antisymm
    · have := (Nat.div_lt_iff_lt_mul hpos).2 (by rw [Nat.mul_comm]; exact h2)
      omega
    · exact (Nat.le_div_iff_mul_le hpos).2 (by rw [Nat.mul_comm]; exact h1)
end Exch
namespace Go.Proofs.YtgggpnjnhhkmgaaDoor
set_option linter.unusedSimpArgs false
set_option linter.unusedVariables false
open Go.RowKit
/-- What a slice's type brings to append: its element takes k cells. -/
structure ElemK (P : Program) (t e : TypeId) (k : Nat) : Prop where
  slice : P.underlying t = some (.slice e)
  info : ∃ i z, P.info? e = some i ∧ i.zero = some z ∧ i.size = k ∧ i.bytes ≤ 128 ∧ z.cells.size = k
  pos : 0 < k
section
variable {P : Program} {w : World}
theorem rd_none0 {n : Nat} {xs : List Value} (hr : Rd w none n xs) : n = 0 ∧ xs = [] := by
  rcases Nat.eq_zero_or_pos n with h | h
  · exact ⟨h, List.eq_nil_of_length_eq_zero (by rw [hr.len, h])⟩
  · obtain ⟨ad, h0, _⟩ := hr.get h; cases h0
theorem run_appK {t e ty : TypeId} {k : Nat} (hE : ElemK P t e k) {B : Nat} {v : Value} {n : Nat} {xs : List Value} (hown : w.ownsRow B e k v n xs) {A : Option Addr} {m c : Nat} {ys : List Value} (hr : Rd w A (m * k) ys)
    (h1 : ∀ u ∈ ys, u.oneCell' = true) (hlen : n + m ≤ 1099511627776) (hB : B ≤ w.heap.size) :
    ∃ v' w', (Builtin.append_ #[t, t] ty #[v, .slice A m c]).run P w = .ok v' w' ∧ w'.ownsRow B e k v' (n + m) (xs ++ ys) ∧ w.grownBy w' v.ownBlock ∧ (v'.ownBlock = v.ownBlock ∨ v'.ownBlock = some w.heap.size) := by
  obtain ⟨i, z, hi, hz, hs, hb, hzs⟩ := hE.info
  rcases Nat.eq_zero_or_pos m with rfl | hm
  · have hy : ys = [] := List.eq_nil_of_length_eq_zero (by rw [hr.len]; simp)
    subst hy
    refine ⟨v, w, ?_, by simpa using hown, World.grownBy.refl w _, .inl rfl⟩
    rcases hown.2 with ⟨rfl, _⟩ | ⟨g, cap, cur, rfl, _, _, hnc, _⟩
    · rcases A with _ | ad
      · simp [Builtin.append_, run_underlying hE.slice, sizeOf, typeInfo, hi, Builtin.lenOf, Builtin.firstCells]
      · simp [Builtin.append_, run_underlying hE.slice, sizeOf, typeInfo, hi, Builtin.lenOf, Builtin.firstCells, loadCells, loadCellsFrom]
    · rcases A with _ | ad
      · simp [Builtin.append_, run_underlying hE.slice, sizeOf, typeInfo, hi, Builtin.lenOf, Builtin.firstCells, hnc, storeCells]
      · simp [Builtin.append_, run_underlying hE.slice, sizeOf, typeInfo, hi, Builtin.lenOf, Builtin.firstCells, loadCells, loadCellsFrom, hnc, storeCells]
  · obtain ⟨ad, rfl, _⟩ := hr.get (Nat.mul_pos hm hE.pos)
    have hcells : ∀ j u, ys[j]? = some u → w.cell? (ad.add j) = some u := by
      intro j u hu
      obtain ⟨ad', e', hc⟩ := hr.at_ j u hu
      injection e' with e'
      subst e'
      exact hc
    have hmul : (n + m) * i.bytes ≤ 1099511627776 * 128 := Nat.mul_le_mul hlen hb
    obtain ⟨v', w', hrun, h2, h3, _, h5⟩ := run_append_own_at (P := P) w B t ty e i z k i.bytes hE.slice hi hz hs rfl hzs hE.pos v n xs hown ad m c ys hr.len hcells h1
      (by simp only [maxLen]; omega) (by omega) hB
    exact ⟨v', w', hrun, h2, h3, h5⟩
theorem wp_appK {o : Oper} {a : Act} {K : Act → World → Prop} {Q : Exit → Act → World → Prop} {s x : Operand} {t e : TypeId} {k : Nat}
    (ho : o.op = .call { callee := .builtin .append, args := #[s, x], argTypes := #[t, t] }) (hE : ElemK P t e k) {B : Nat} {v : Value} {n : Nat} {xs : List Value} (hs : a.eval s = v) (hown : w.ownsRow B e k v n xs)
    {A : Option Addr} {m c : Nat} {ys : List Value} (hx : a.eval x = .slice A m c) (hr : Rd w A (m * k) ys) (h1 : ∀ u ∈ ys, u.oneCell' = true) (hlen : n + m ≤ 1099511627776) (hB : B ≤ w.heap.size)
    (h : ∀ v' w', w'.ownsRow B e k v' (n + m) (xs ++ ys) → w.grownBy w' v.ownBlock → Below B w w' → K (a.put o.dst v') w') : o.wp P a w K Q := by
  obtain ⟨v', w', hrun, h2, h3, _⟩ := run_appK (P := P) (w := w) (ty := o.type) (c := c) hE hown hr h1 hlen hB
  unfold Oper.wp execOp
  simp only [ho, resolve, invoke, builtin, Sem.run_bind, Sem.run_pure, Result.andThen_ok, List.map_toArray, List.map_cons, List.map_nil, hs, hx, hrun]
  exact h v' w' h2 h3 ((Below.refl B w).grown h3 hB fun k hk => ((World.ownsRow.lt hown) k hk).1)
theorem wpList_appK {ops : Array Oper} {rest : List Oper} {o : Oper} {a : Act} {Q : Exit → Act → World → Prop} (hgd : o.guard = none) {s x : Operand} {t e : TypeId} {k : Nat}
    (ho : o.op = .call { callee := .builtin .append, args := #[s, x], argTypes := #[t, t] }) (hE : ElemK P t e k) {B : Nat} {v : Value} {n : Nat} {xs : List Value} (hs : a.eval s = v) (hown : w.ownsRow B e k v n xs)
    {A : Option Addr} {m c : Nat} {ys : List Value} (hx : a.eval x = .slice A m c) (hr : Rd w A (m * k) ys) (h1 : ∀ u ∈ ys, u.oneCell' = true) (hlen : n + m ≤ 1099511627776) (hB : B ≤ w.heap.size)
    (h : ∀ v' w', w'.ownsRow B e k v' (n + m) (xs ++ ys) → w.grownBy w' v.ownBlock → Below B w w' → wpList P ops Q rest (a.put o.dst v') w') : wpList P ops Q (o :: rest) a w :=
  wpList_plain hgd fun _ hK => wp_appK ho hE hs hown hx hr h1 hlen hB fun v' w' h2 h3 h4 => hK _ _ (h v' w' h2 h3 h4)
/-- append onto a slice that has no room, of whoever's. -/
theorem run_appF {t e ty : TypeId} {k : Nat} (hE : ElemK P t e k) {A : Option Addr} {n : Nat} {xs : List Value} (hx : Rd w A (n * k) xs) {C : Option Addr} {m c : Nat} {ys : List Value} (hr : Rd w C (m * k) ys)
    (h1 : ∀ u ∈ ys, u.oneCell' = true) (hm : 0 < m) (hlen : n + m ≤ 1099511627776) :
    ∃ v' w', (Builtin.append_ #[t, t] ty #[.slice A n n, .slice C m c]).run P w = .ok v' w' ∧ w'.ownsRow w.heap.size e k v' (n + m) (xs ++ ys) ∧ w.grownBy w' none := by
  obtain ⟨i, z, hi, hz, hs, hb, hzs⟩ := hE.info
  have hmul : (n + m) * i.bytes ≤ 1099511627776 * 128 := Nat.mul_le_mul hlen hb
  obtain ⟨ad, rfl, _⟩ := hr.get (Nat.mul_pos hm hE.pos)
  have hcells : ∀ j u, ys[j]? = some u → w.cell? (ad.add j) = some u := by
    intro j u hu
    obtain ⟨ad', e', hc⟩ := hr.at_ j u hu
    injection e' with e'
    subst e'
    exact hc
  rcases A with _ | b
  · obtain ⟨h0, rfl⟩ := rd_none0 hx
    have hn : n = 0 := by
      rcases Nat.mul_eq_zero.1 h0 with h | h
      · exact h
      · have := hE.pos; omega
    subst hn
    obtain ⟨v', w', hrun, h2, h3, _, h5⟩ := run_append_own_at (P := P) w w.heap.size t ty e i z k i.bytes hE.slice hi hz hs rfl hzs hE.pos _ 0 [] (World.ownsRow_nil w w.heap.size e k) ad m c ys hr.len hcells h1
      (by simp only [maxLen]; omega) (by omega) (Nat.le_refl _)
    exact ⟨v', w', hrun, h2, h3⟩
  · have hold : ∀ j u, xs[j]? = some u → w.cell? (b.add j) = some u := by
      intro j u hu
      obtain ⟨ad', e', hc⟩ := hx.at_ j u hu
      injection e' with e'
      subst e'
      exact hc
    exact run_append_arg_grows (P := P) w t ty e i z k i.bytes hE.slice hi hz hs rfl hzs hE.pos b n n xs hx.len hold ad m c ys hr.len hcells (by omega) (by simp only [maxLen]; omega) (by omega)
theorem wp_appF {o : Oper} {a : Act} {K : Act → World → Prop} {Q : Exit → Act → World → Prop} {s x : Operand} {t e : TypeId} {k : Nat}
    (ho : o.op = .call { callee := .builtin .append, args := #[s, x], argTypes := #[t, t] }) (hE : ElemK P t e k) {A : Option Addr} {n : Nat} {xs : List Value} (hs : a.eval s = .slice A n n) (ha : Rd w A (n * k) xs)
    {C : Option Addr} {m c : Nat} {ys : List Value} (hx : a.eval x = .slice C m c) (hr : Rd w C (m * k) ys) (h1 : ∀ u ∈ ys, u.oneCell' = true) (hm : 0 < m) (hlen : n + m ≤ 1099511627776)
    (h : ∀ v' w', w'.ownsRow w.heap.size e k v' (n + m) (xs ++ ys) → Below w.heap.size w w' → K (a.put o.dst v') w') : o.wp P a w K Q := by
  obtain ⟨v', w', hrun, h2, h3⟩ := run_appF (P := P) (w := w) (ty := o.type) (c := c) hE ha hr h1 hm hlen
  unfold Oper.wp execOp
  simp only [ho, resolve, invoke, builtin, Sem.run_bind, Sem.run_pure, Result.andThen_ok, List.map_toArray, List.map_cons, List.map_nil, hs, hx, hrun]
  exact h v' w' h2 ((Below.refl _ w).grown h3 (Nat.le_refl _) fun k hk => by cases hk)
theorem wpList_appF {ops : Array Oper} {rest : List Oper} {o : Oper} {a : Act} {Q : Exit → Act → World → Prop} (hgd : o.guard = none) {s x : Operand} {t e : TypeId} {k : Nat}
    (ho : o.op = .call { callee := .builtin .append, args := #[s, x], argTypes := #[t, t] }) (hE : ElemK P t e k) {A : Option Addr} {n : Nat} {xs : List Value} (hs : a.eval s = .slice A n n) (ha : Rd w A (n * k) xs)
    {C : Option Addr} {m c : Nat} {ys : List Value} (hx : a.eval x = .slice C m c) (hr : Rd w C (m * k) ys) (h1 : ∀ u ∈ ys, u.oneCell' = true) (hm : 0 < m) (hlen : n + m ≤ 1099511627776)
    (h : ∀ v' w', w'.ownsRow w.heap.size e k v' (n + m) (xs ++ ys) → Below w.heap.size w w' → wpList P ops Q rest (a.put o.dst v') w') : wpList P ops Q (o :: rest) a w :=
  wpList_plain hgd fun _ hK => wp_appF ho hE hs ha hx hr h1 hm hlen fun v' w' h2 h3 => hK _ _ (h v' w' h2 h3)
/-! ### loads -/
theorem isAgg_run {ty : TypeId} (hu : (P.underlying ty).map isAggDesc = some true) (w : World) : (isAgg ty).run P w = .ok true w := by
  cases h : P.underlying ty with
  | none => rw [h] at hu; cases hu
  | some d =>
    rw [h] at hu
    unfold isAgg
    rw [Sem.run_bind, run_underlying h w]
    cases d <;> simp_all [isAggDesc]
theorem sizeOf_run {ty : TypeId} {n : Nat} (hi : (P.info? ty).map (·.size) = some n) (w : World) : (sizeOf ty).run P w = .ok n w := by
  cases hq : P.info? ty with
  | none => simp [hq] at hi
  | some inf =>
    have hsz : inf.size = n := by simpa [hq] using hi
    simp [sizeOf, typeInfo, hq, hsz]
theorem run_loadK {p : Addr} {ty : TypeId} {us : List Value} (hu : (P.underlying ty).map isAggDesc = some true) (hi : (P.info? ty).map (·.size) = some us.length) (hc : ∀ j u, us[j]? = some u → w.cell? (p.add j) = some u) :
    (loadVar ty p).run P w = .ok (.agg us.toArray) w := by
  have hl := run_loadCells_list (P := P) (w := w) p us hc
  unfold loadVar
  rw [Sem.run_bind, isAgg_run hu, Result.andThen_ok]
  simp [Sem.run_bind, sizeOf_run hi, hl]
theorem wp_loadK {o : Oper} {a : Act} {K : Act → World → Prop} {Q : Exit → Act → World → Prop} {t : TypeId} {x : Operand} (ho : o.op = .load t x) {p : Addr} (ha : a.eval x = .pointer (some p)) {us : List Value}
    (hu : (P.underlying t).map isAggDesc = some true) (hi : (P.info? t).map (·.size) = some us.length) (hc : ∀ j u, us[j]? = some u → w.cell? (p.add j) = some u) (h : K (a.put o.dst (.agg us.toArray)) w) : o.wp P a w K Q := by
  unfold Oper.wp execOp
  simp only [ho, ha, Instr.loadAt, Instr.sureAddr, Sem.run_bind, Sem.run_pure, Result.andThen_ok, run_loadK (w := w) hu hi hc]
  exact h
theorem wpList_loadK {ops : Array Oper} {rest : List Oper} {o : Oper} {a : Act} {Q : Exit → Act → World → Prop} (hgd : o.guard = none) {t : TypeId} {x : Operand} (ho : o.op = .load t x) {p : Addr} (ha : a.eval x = .pointer (some p)) {us : List Value}
    (hu : (P.underlying t).map isAggDesc = some true) (hi : (P.info? t).map (·.size) = some us.length) (hc : ∀ j u, us[j]? = some u → w.cell? (p.add j) = some u) (h : wpList P ops Q rest (a.put o.dst (.agg us.toArray)) w) : wpList P ops Q (o :: rest) a w :=
  wpList_plain hgd fun K hK => wp_loadK ho ha hu hi hc (hK _ _ h)
theorem yields_loadK {ops : Array Oper} {w0 : World} {o : Oper} {a : Act} {t : TypeId} {x : Operand} {p : Addr} {us : List Value} (ho : o.op = .load t x) (hg : o.guard = none) (ha : a.eval x = .pointer (some p))
    (hu : (P.underlying t).map isAggDesc = some true) (hi : (P.info? t).map (·.size) = some us.length) (hc : ∀ j u, us[j]? = some u → w0.cell? (p.add j) = some u) : YieldsIf P ops (Below w0.heap.size w0) o (.agg us.toArray) a := by
  refine .inl ⟨by simp [Region.wanted, hg], fun w hS => ?_⟩
  unfold execOp
  simp only [ho, ha, Instr.loadAt, Instr.sureAddr, Sem.run_bind, Sem.run_pure, Result.andThen_ok, run_loadK (w := w) hu hi (fun j u h => cell_later hS (hc j u h))]
end
/-! ### elements -/
section
variable {α : Type} {f : α → List Value} {k : Nat}
theorem length_fl (hf : ∀ x, (f x).length = k) : ∀ l : List α, (l.flatMap f).length = l.length * k
  | [] => by simp
  | x :: l => by rw [List.flatMap_cons, List.length_append, hf, length_fl hf l, List.length_cons, Nat.add_mul]; omega
theorem fl_get (hf : ∀ x, (f x).length = k) : ∀ (l : List α) (i : Nat) (h : i < l.length) (j : Nat), j < k → (l.flatMap f)[i * k + j]? = (f l[i])[j]?
  | x :: l, 0, _, j, hj => by simp only [List.flatMap_cons, Nat.zero_mul, Nat.zero_add, List.getElem_cons_zero]; rw [List.getElem?_append_left (by rw [hf]; exact hj)]
  | x :: l, i + 1, h, j, hj => by
    have := fl_get hf l i (by simpa using h) j hj
    have e : (i + 1) * k = k + i * k := by rw [Nat.add_mul]; omega
    simp only [List.flatMap_cons, List.getElem_cons_succ]
    rw [List.getElem?_append_right (by rw [hf, e]; omega), hf, show (i + 1) * k + j - k = i * k + j by rw [e]; omega]
    exact this
theorem fl_take (hf : ∀ x, (f x).length = k) : ∀ (l : List α) (i : Nat), i ≤ l.length → (l.flatMap f).take (i * k) = (l.take i).flatMap f
  | l, 0, _ => by simp
  | x :: l, i + 1, h => by
    have := fl_take hf l i (by simpa using h)
    have e : (i + 1) * k = k + i * k := by rw [Nat.add_mul]; omega
    rw [List.take_succ_cons, List.flatMap_cons, List.flatMap_cons, List.take_append, hf, e, show k + i * k - k = i * k by omega, this, List.take_of_length_le (by rw [hf]; omega)]
theorem fl_drop (hf : ∀ x, (f x).length = k) : ∀ (l : List α) (i : Nat), i ≤ l.length → (l.flatMap f).drop (i * k) = (l.drop i).flatMap f
  | l, 0, _ => by simp
  | x :: l, i + 1, h => by
    have := fl_drop hf l i (by simpa using h)
    have e : (i + 1) * k = k + i * k := by rw [Nat.add_mul]; omega
    rw [List.drop_succ_cons, List.flatMap_cons, List.drop_append, hf, e, show k + i * k - k = i * k by omega, this, List.drop_of_length_le (by rw [hf]; omega), List.nil_append]
theorem fl_set (hf : ∀ x, (f x).length = k) : ∀ (l : List α) (i : Nat) (h : i < l.length) (j : Nat) (u : Value) (y : α), j < k → (f l[i]).set j u = f y → (l.flatMap f).set (i * k + j) u = (l.set i y).flatMap f
  | x :: l, 0, _, j, u, y, hj, e => by
    simp only [List.flatMap_cons, Nat.zero_mul, Nat.zero_add, List.set_cons_zero]
    rw [List.set_append_left _ _ (by rw [hf]; exact hj)]
    congr 1
  | x :: l, i + 1, h, j, u, y, hj, e => by
    have := fl_set hf l i (by simpa using h) j u y hj (by simpa using e)
    have e2 : (i + 1) * k = k + i * k := by rw [Nat.add_mul]; omega
    simp only [List.flatMap_cons, List.set_cons_succ]
    rw [List.set_append_right _ _ (by rw [hf, e2]; omega), hf, show (i + 1) * k + j - k = i * k + j by rw [e2]; omega, this]
theorem Rd.elem {w : World} {A : Option Addr} {n : Nat} (hf : ∀ x, (f x).length = k) (hk : 0 < k) {l : List α} (h : Rd w A (n * k) (l.flatMap f)) {i : Nat} (hi : i < l.length) :
    ∃ ad, A = some ad ∧ ∀ j u, (f l[i])[j]? = some u → w.cell? ((ad.add (i * k)).add j) = some u := by
  have h0 : (l.flatMap f)[i * k + 0]? = some ((f l[i])[0]'(by rw [hf]; exact hk)) := by rw [fl_get hf l i hi 0 hk]; simp
  obtain ⟨ad, e, _⟩ := h.at_ _ _ h0
  refine ⟨ad, e, fun j u hj => ?_⟩
  have hjk : j < k := by have := (List.getElem?_eq_some_iff.1 hj).1; rw [hf] at this; exact this
  obtain ⟨ad', e', hc⟩ := h.at_ (i * k + j) u (by rw [fl_get hf l i hi j hjk]; exact hj)
  rw [e] at e'
  injection e' with e'
  subst e'
  rw [add_of_add]
  exact hc
end
end Go.Proofs.YtgggpnjnhhkmgaaDoor
namespace Go.Proofs.YtgggpnjnhhkmgaaDoor
set_option linter.unusedSimpArgs false
set_option linter.unusedVariables false
open Go Go.RowKit
section
variable {P : Program} {ops : Array Oper} {w0 : World} {o : Oper} {a : Act}
theorem yields_loadW (hw : Region.wanted o (yielded ops a.tmps) = true) {t : TypeId} {x : Operand} {p : Addr} {v : Value} (ho : o.op = .load t x) (ha : a.eval x = .pointer (some p))
    (hu : (P.underlying t).map isAggDesc = some false) (hc : w0.cell? p = some v) : YieldsIf P ops (Below w0.heap.size w0) o v a := by
  refine .inl ⟨hw, fun w hS => ?_⟩
  have hc' : w.cell? p = some v := cell_later hS hc
  unfold execOp
  simp only [ho, ha, Instr.loadAt, Instr.sureAddr, Sem.run_bind, Sem.run_pure, Result.andThen_ok, run_loadVar_one w p t v hu hc']
theorem yields_blkW (hw : Region.wanted o (yielded ops a.tmps) = true) {t : TypeId} {x : Operand} {g : Nat} {T : TypeId} {cs : Array Value} (ho : o.op = .load t x) (ha : a.eval x = .pointer (some ⟨g, 0, none⟩))
    (hu : (P.underlying t).map isAggDesc = some true) (hi : (P.info? t).map (·.size) = some cs.size) (hb : Blk w0 g T cs) : YieldsIf P ops (Below w0.heap.size w0) o (.agg cs) a := by
  refine .inl ⟨hw, fun w hS => ?_⟩
  unfold execOp
  simp only [ho, ha, Instr.loadAt, Instr.sureAddr, Sem.run_bind, Sem.run_pure, Result.andThen_ok, run_loadVar_blk w g T t cs (hb.below hS) hu hi]
theorem yields_loadKW (hw : Region.wanted o (yielded ops a.tmps) = true) {t : TypeId} {x : Operand} {p : Addr} {us : List Value} (ho : o.op = .load t x) (ha : a.eval x = .pointer (some p))
    (hu : (P.underlying t).map isAggDesc = some true) (hi : (P.info? t).map (·.size) = some us.length) (hc : ∀ j u, us[j]? = some u → w0.cell? (p.add j) = some u) : YieldsIf P ops (Below w0.heap.size w0) o (.agg us.toArray) a := by
  refine .inl ⟨hw, fun w hS => ?_⟩
  unfold execOp
  simp only [ho, ha, Instr.loadAt, Instr.sureAddr, Sem.run_bind, Sem.run_pure, Result.andThen_ok, run_loadK (w := w) hu hi (fun j u h => cell_later hS (hc j u h))]
theorem wpList_want {w : World} {rest : List Oper} {Q : Exit → Act → World → Prop} (hw : Region.wanted o (yielded ops a.tmps) = true) (h : ∀ K : Act → World → Prop, (∀ a w, wpList P ops Q rest a w → K a w) → o.wp P a w K Q) : wpList P ops Q (o :: rest) a w :=
  wpList_step fun K hK => by rw [if_pos hw]; exact h K hK
theorem wpList_loadRowW {w : World} {rest : List Oper} {Q : Exit → Act → World → Prop} (hw : Region.wanted o (yielded ops a.tmps) = true) {ty : TypeId} {x : Operand} (ho : o.op = .load ty x)
    {g : Nat} (hx : a.eval x = .pointer (some ⟨g, 0, none⟩)) {T : TypeId} {cs : Array Value} (hb : Blk w g T cs)
    (hu : (P.underlying ty).map isAggDesc = some true) (hi : (P.info? ty).map (·.size) = some cs.size)
    (h : wpList P ops Q rest (a.put o.dst (.agg cs)) w) : wpList P ops Q (o :: rest) a w := by
  refine wpList_want hw fun K hK => ?_
  unfold Oper.wp execOp
  simp only [ho, hx, Instr.loadAt, Instr.sureAddr, Sem.run_bind, Sem.run_pure, Result.andThen_ok, run_loadVar_blk w g T ty cs hb hu hi]
  exact hK _ _ h
theorem wpList_loadKW {w : World} {rest : List Oper} {Q : Exit → Act → World → Prop} (hw : Region.wanted o (yielded ops a.tmps) = true) {t : TypeId} {x : Operand} (ho : o.op = .load t x) {p : Addr} (ha : a.eval x = .pointer (some p)) {us : List Value}
    (hu : (P.underlying t).map isAggDesc = some true) (hi : (P.info? t).map (·.size) = some us.length) (hc : ∀ j u, us[j]? = some u → w.cell? (p.add j) = some u) (h : wpList P ops Q rest (a.put o.dst (.agg us.toArray)) w) : wpList P ops Q (o :: rest) a w := by
  refine wpList_want hw fun K hK => ?_
  unfold Oper.wp execOp
  simp only [ho, ha, Instr.loadAt, Instr.sureAddr, Sem.run_bind, Sem.run_pure, Result.andThen_ok, run_loadK (w := w) hu hi hc]
  exact hK _ _ h
end
end Go.Proofs.YtgggpnjnhhkmgaaDoor
namespace Go.Proofs.YtgggpnjnhhkmgaaDoor
set_option linter.unusedSimpArgs false
set_option linter.unusedVariables false
open Go.RowKit
theorem wp_region_TB {P : Program} {ops : Array Oper} {Q : Exit → Act → World → Prop} {id : Nat} {a : Act} {w : World} {S : World → Prop} (t : Nat) (hm : P.follows .mixedOrders = true)
    (h : WpT P ops Q S t ops.size (Array.replicate ops.size false) a w.drew) : (Code.region id ops true).wp P Q a w :=
  wp_region_any hm (WpT.any _ _ _ _ h)
/-- Only one block has turned. -/
structure Turned (g : Nat) (w w' : World) : Prop where
  below : ∀ B, B ≤ g → Below B w w'
  size : w'.heap.size = w.heap.size
  far : ∀ k, k ≠ g → w'.heap[k]? = w.heap[k]?
section
variable {w w' : World} {g : Nat}
theorem Turned.blk (h : Turned g w w') {k : Nat} {T : TypeId} {cs : Array Value} (hb : Blk w k T cs) (hk : k ≠ g) : Blk w' k T cs := (h.far k hk).trans hb
theorem Turned.own (h : Turned g w w') {B : Nat} {e : TypeId} {k : Nat} {v : Value} {n : Nat} {xs : List Value} (ho : w.ownsRow B e k v n xs) (hg : v.ownBlock ≠ some g) : w'.ownsRow B e k v n xs := by
  refine ⟨ho.1, ?_⟩
  rcases ho.2 with h2 | ⟨p, cap, cur, hv, hp, hh, r⟩
  · exact .inl h2
  · refine .inr ⟨p, cap, cur, hv, hp, ?_, r⟩
    rw [h.far p (fun e => hg (by rw [hv, e]; rfl))]; exact hh
theorem Turned.of_setCell (w : World) (g j : Nat) (v : Value) : Turned g w (w.setCell ⟨g, j, none⟩ v) :=
  ⟨fun B hB => (Below.refl B w).setCell (p := ⟨g, j, none⟩) hB v, by simp, fun k hk => Below.heap_setCell w ⟨g, j, none⟩ v k hk⟩
theorem Turned.of_setCells (w : World) (g o : Nat) (vs : List Value) : Turned g w (w.setCells g o vs) :=
  ⟨fun B hB => below_setCells (Below.refl B w) hB o vs, size_setCells g vs o w, fun k hk => heap_setCells_other g vs o w k hk⟩
end
theorem ownsRow_below {w w' : World} {B : Nat} {e : TypeId} {k : Nat} {v : Value} {n : Nat} {xs : List Value} (h : w.ownsRow B e k v n xs) (hb : Below w.heap.size w w') : w'.ownsRow B e k v n xs := by
  refine ⟨h.1, ?_⟩
  rcases h.2 with h2 | ⟨g, cap, cur, hv, hg, hh, r⟩
  · exact .inl h2
  · refine .inr ⟨g, cap, cur, hv, hg, ?_, r⟩
    have hlt := (World.ownsRow.lt h g (by rw [hv]; rfl)).2
    rw [hb.block g hlt]; exact hh
theorem ownsRow_lower {w : World} {B B' : Nat} {e : TypeId} {k : Nat} {v : Value} {n : Nat} {xs : List Value} (h : w.ownsRow B e k v n xs) (hB : B' ≤ B) : w.ownsRow B' e k v n xs := by
  refine ⟨h.1, ?_⟩
  rcases h.2 with h2 | ⟨g, cap, cur, hv, hg, r⟩
  · exact .inl h2
  · exact .inr ⟨g, cap, cur, hv, by omega, r⟩
theorem ownsRow_form {w : World} {B : Nat} {e : TypeId} {k : Nat} {v : Value} {n : Nat} {xs : List Value} (h : w.ownsRow B e k v n xs) : ∃ A c, v = .slice A n c ∧ n ≤ c ∧ c ≤ maxLen ∧ Rd w A (n * k) xs := by
  have h0 := h
  rcases h.2 with ⟨rfl, hn⟩ | ⟨g, cap, cur, rfl, _, _, hc, hm, _⟩
  · subst hn
    have hx : xs = [] := List.eq_nil_of_length_eq_zero (by have := h.1; simpa using this)
    subst hx
    exact ⟨none, 0, rfl, Nat.le_refl _, by simp [maxLen], by rw [Nat.zero_mul]; exact Rd.none_ w⟩
  · exact ⟨some ⟨g, 0, none⟩, cap, rfl, hc, hm, h.1, fun k u hk => ⟨_, rfl, World.ownsRow.cells h0 (g := g) rfl k u hk⟩⟩
section
variable {P : Program} {w : World} {ops : Array Oper} {rest : List Oper} {o : Oper} {a : Act} {Q : Exit → Act → World → Prop}
theorem wpList_set (hgd : o.guard = none) {ty : TypeId} {x y : Operand} (ho : o.op = .store ty x y) (hi : (P.info? ty).map (·.size) = some 1)
    {g j : Nat} (hx : a.eval x = .pointer (some ⟨g, j, none⟩)) {v : Value} (hy : a.eval y = v) (h1 : v.oneCell' = true) {T : TypeId} {cs cs' : Array Value} (hb : Blk w g T cs) (hj : j < cs.size) (hcs : cs.setIfInBounds j v = cs')
    (h : ∀ w', Turned g w w' → Blk w' g T cs' → wpList P ops Q rest (a.put o.dst undef) w') : wpList P ops Q (o :: rest) a w :=
  wpList_plain hgd fun K hK => wp_store1 (K := K) ho hi hx hy h1 hb hj fun w' hw' h2 => hK _ _ (h w' (by rw [hw']; exact Turned.of_setCell _ _ _ _) (by rw [← hcs]; exact h2))
theorem wpList_put (hgd : o.guard = none) {ty : TypeId} {x y : Operand} (ho : o.op = .store ty x y) {g : Nat} (hx : a.eval x = .pointer (some ⟨g, 0, none⟩))
    {T : TypeId} {cs vs : Array Value} (hy : a.eval y = .agg vs) (hb : Blk w g T cs) (hs : vs.size = cs.size) (hi : (P.info? ty).map (·.size) = some vs.size) (h1 : vs.all (·.oneCell') = true)
    (h : ∀ w', Turned g w w' → Blk w' g T vs → wpList P ops Q rest (a.put o.dst undef) w') : wpList P ops Q (o :: rest) a w :=
  wpList_storeRow (o := 0) (vs := vs) hgd ho hx hy hb (by omega) hi h1 (h _ (Turned.of_setCells _ _ _ _) (hb.all vs hs))
theorem wpList_new (hgd : o.guard = none) {t : TypeId} (ho : o.op = .alloc t) {cs : Array Value} (hz : ∀ w, (zeroValue t).run P w = .ok (.agg cs) w)
    (h : ∀ w' g, g = w.heap.size → Blk w' g t cs → Below w.heap.size w w' → g < w'.heap.size → wpList P ops Q rest (a.put o.dst (.pointer (some ⟨g, 0, none⟩))) w') : wpList P ops Q (o :: rest) a w :=
  wpList_plain hgd fun _ hK => wp_alloc (z := .agg cs) ho (hz w) (hK _ _ (h _ _ rfl (Blk.new _ _ _) ((Below.refl _ _).alloc (Nat.le_refl _) _) (Blk.new _ _ _).lt))
end
/-- A function whose first result lies in a block that is known whole, whose second one lies in a slot. -/
theorem ret_blk2 {P : Program} {fn : Func} {R : Ending → World → Prop} {a : Act} {w : World} {g : Nat} {t : TypeId} {cs : Array Value} {p q : Tmp} {ty : TypeId}
    (h : fn.results = #[.cell p ty, .tmp q]) (hd : a.defers = []) (hp : a.tmps.getD p undef = .pointer (some ⟨g, 0, none⟩)) (hb : Blk w g t cs)
    (hu : (P.underlying ty).map isAggDesc = some true) (hi : (P.info? ty).map (·.size) = some cs.size) (hR : R (.returned (.tuple #[.agg cs, a.tmps.getD q undef])) w) : bodyPost P fn R .ret a w := by
  refine bodyPost_ret ?_ hd hR
  have hp' : a.tmps[p]?.getD undef = .pointer (some ⟨g, 0, none⟩) := by simpa using hp
  simp [results, h, hp', asAddr, run_loadVar_blk w g t ty cs hb hu hi]
/-- .. whose second and third one lie in slots. -/
theorem ret_blk3 {P : Program} {fn : Func} {R : Ending → World → Prop} {a : Act} {w : World} {g : Nat} {t : TypeId} {cs : Array Value} {p q r : Tmp} {ty : TypeId}
    (h : fn.results = #[.cell p ty, .tmp q, .tmp r]) (hd : a.defers = []) (hp : a.tmps.getD p undef = .pointer (some ⟨g, 0, none⟩)) (hb : Blk w g t cs)
    (hu : (P.underlying ty).map isAggDesc = some true) (hi : (P.info? ty).map (·.size) = some cs.size) (hR : R (.returned (.tuple #[.agg cs, a.tmps.getD q undef, a.tmps.getD r undef])) w) : bodyPost P fn R .ret a w := by
  refine bodyPost_ret ?_ hd hR
  have hp' : a.tmps[p]?.getD undef = .pointer (some ⟨g, 0, none⟩) := by simpa using hp
  simp [results, h, hp', asAddr, run_loadVar_blk w g t ty cs hb hu hi]
/-- A row lies in no older block than another one, but in the same. -/
def KA (w w' : World) (A A' : Option Addr) : Prop := ∀ g, (g < w.heap.size ∨ w'.heap.size ≤ g) → (∀ ad, A = some ad → ad.block ≠ g) → ∀ ad, A' = some ad → ad.block ≠ g
theorem KA.none (w : World) {w' : World} (A : Option Addr) : KA w w' A none := fun g _ _ ad e => by cases e
theorem KA.refl (w : World) {w' : World} (A : Option Addr) : KA w w' A A := fun g _ h => h
theorem KA.cut (w : World) {w' : World} (A : Option Addr) (k : Nat) (p : Prop) [Decidable p] : KA w w' A (if p then A else A.map (·.add k)) := fun g _ h ad e => by
  split at e
  · exact h ad e
  · cases A with
    | none => cases e
    | some b => simp only [Option.map_some, Option.some.injEq] at e; subst e; rw [block_of_add]; exact h b rfl
theorem KA.own {w W : World} {A A' : Option Addr} {B : Nat} {e : TypeId} {k n c m : Nat} {xs : List Value} (h : W.ownsRow B e k (.slice A' n c) m xs) (hB : w.heap.size ≤ B) : KA w W A A' := fun g hg _ ad e => by
  subst e
  have hlt := World.ownsRow.lt h ad.block rfl
  rcases h.2 with ⟨h2, _⟩ | ⟨p, cap, cur, hv, hp, _⟩
  · cases h2
  · injection hv with h3
    injection h3 with h3
    subst h3
    show p ≠ g
    have hlt2 : p < W.heap.size := hlt.2
    omega
theorem rd_newL (W : World) (us : List Value) (t : TypeId) : Rd (W.alloc (.cells us.toArray t)) (some ⟨W.heap.size, 0, none⟩) us.length us := by
  refine ⟨rfl, fun k u hk => ⟨_, rfl, ?_⟩⟩
  have h := (Blk.new W t us.toArray).cell k
  rw [List.getElem?_toArray, hk] at h
  unfold Addr.add
  split
  · subst_vars; exact h
  · rw [← h, Nat.zero_add]
theorem wp_set {P : Program} {w : World} {o : Oper} {a : Act} {K : Act → World → Prop} {Q : Exit → Act → World → Prop} {ty : TypeId} {x y : Operand} (ho : o.op = .store ty x y) (hi : (P.info? ty).map (·.size) = some 1)
    {g j : Nat} (hx : a.eval x = .pointer (some ⟨g, j, none⟩)) {v : Value} (hy : a.eval y = v) (h1 : v.oneCell' = true) {T : TypeId} {cs cs' : Array Value} (hb : Blk w g T cs) (hj : j < cs.size) (hcs : cs.setIfInBounds j v = cs')
    (h : ∀ w', Turned g w w' → Blk w' g T cs' → K (a.put o.dst undef) w') : o.wp P a w K Q :=
  wp_store1 ho hi hx hy h1 hb hj fun w' hw' h2 => h w' (by rw [hw']; exact Turned.of_setCell _ _ _ _) (by rw [← hcs]; exact h2)
theorem wp_put {P : Program} {w : World} {o : Oper} {a : Act} {K : Act → World → Prop} {Q : Exit → Act → World → Prop} {ty : TypeId} {x y : Operand} (ho : o.op = .store ty x y) {g : Nat} (hx : a.eval x = .pointer (some ⟨g, 0, none⟩))
    {T : TypeId} {cs vs : Array Value} (hy : a.eval y = .agg vs) (hb : Blk w g T cs) (hs : vs.size = cs.size) (hi : (P.info? ty).map (·.size) = some vs.size) (h1 : vs.all (·.oneCell') = true)
    (h : ∀ w', Turned g w w' → Blk w' g T vs → K (a.put o.dst undef) w') : o.wp P a w K Q :=
  wp_storeRow (o := 0) (vs := vs) ho hx hy hb (by omega) hi h1 (h _ (Turned.of_setCells _ _ _ _) (hb.all vs hs))
theorem wp_appO {P : Program} {w : World} {o : Oper} {a : Act} {K : Act → World → Prop} {Q : Exit → Act → World → Prop} {s x : Operand} {t e : TypeId} {k : Nat}
    (ho : o.op = .call { callee := .builtin .append, args := #[s, x], argTypes := #[t, t] }) (hE : ElemK P t e k) {B : Nat} {v : Value} {n : Nat} {xs : List Value} (hs : a.eval s = v) (hown : w.ownsRow B e k v n xs)
    {A : Option Addr} {m c : Nat} {ys : List Value} (hx : a.eval x = .slice A m c) (hr : Rd w A (m * k) ys) (h1 : ∀ u ∈ ys, u.oneCell' = true) (hlen : n + m ≤ 1099511627776) (hB : B ≤ w.heap.size)
    (h : ∀ v' w', w'.ownsRow B e k v' (n + m) (xs ++ ys) → w.grownBy w' v.ownBlock → Below B w w' → (v'.ownBlock = v.ownBlock ∨ v'.ownBlock = some w.heap.size) → K (a.put o.dst v') w') : o.wp P a w K Q := by
  obtain ⟨v', w', hrun, h2, h3, h4⟩ := run_appK (P := P) (w := w) (ty := o.type) (c := c) hE hown hr h1 hlen hB
  unfold Oper.wp execOp
  simp only [ho, resolve, invoke, builtin, Sem.run_bind, Sem.run_pure, Result.andThen_ok, List.map_toArray, List.map_cons, List.map_nil, hs, hx, hrun]
  exact h v' w' h2 h3 ((Below.refl B w).grown h3 hB fun k hk => ((World.ownsRow.lt hown) k hk).1) h4
theorem own_grown {X Y : World} {B : Nat} {e : TypeId} {k : Nat} {v : Value} {n : Nat} {xs : List Value} {row : Option Nat} (h : X.ownsRow B e k v n xs) (hg : X.grownBy Y row) (hne : ∀ r, row = some r → v.ownBlock ≠ some r) : Y.ownsRow B e k v n xs := by
  refine ⟨h.1, ?_⟩
  rcases h.2 with h2 | ⟨g, cap, cur, hv, hp, hh, r⟩
  · exact .inl h2
  · refine .inr ⟨g, cap, cur, hv, hp, ?_, r⟩
    have hlt := (World.ownsRow.lt h g (by rw [hv]; rfl)).2
    exact (hg.block g hlt (fun e => hne g e.symm (by rw [hv]; rfl))).trans hh
theorem own_ne_new {W : World} {B : Nat} {e : TypeId} {k : Nat} {v : Value} {n : Nat} {xs : List Value} {g : Nat} (h : W.ownsRow B e k v n xs) (hg : g = W.heap.size) : v.ownBlock ≠ some g := fun e => by have := (World.ownsRow.lt h _ e).2; omega
theorem own_ne_app {v6 : Value} {gL gV : Nat} {W : World} (hv : v6.ownBlock = (Value.slice (some ⟨gL, 0, none⟩) 0 0).ownBlock ∨ v6.ownBlock = some W.heap.size) (hne : gL ≠ gV) (hlt : gV < W.heap.size) : v6.ownBlock ≠ some gV := by
  rcases hv with h | h <;> rw [h]
  · exact fun e => hne (Option.some.inj e)
  · intro e; have := Option.some.inj e; omega
theorem wpList_appO {P : Program} {w : World} {ops : Array Oper} {rest : List Oper} {o : Oper} {a : Act} {Q : Exit → Act → World → Prop} (hgd : o.guard = none) {s x : Operand} {t e : TypeId} {k : Nat}
    (ho : o.op = .call { callee := .builtin .append, args := #[s, x], argTypes := #[t, t] }) (hE : ElemK P t e k) {B : Nat} {v : Value} {n : Nat} {xs : List Value} (hs : a.eval s = v) (hown : w.ownsRow B e k v n xs)
    {A : Option Addr} {m c : Nat} {ys : List Value} (hx : a.eval x = .slice A m c) (hr : Rd w A (m * k) ys) (h1 : ∀ u ∈ ys, u.oneCell' = true) (hlen : n + m ≤ 1099511627776) (hB : B ≤ w.heap.size)
    (h : ∀ v' w', w'.ownsRow B e k v' (n + m) (xs ++ ys) → w.grownBy w' v.ownBlock → (v'.ownBlock = v.ownBlock ∨ v'.ownBlock = some w.heap.size) → wpList P ops Q rest (a.put o.dst v') w') : wpList P ops Q (o :: rest) a w := by
  refine wpList_plain hgd fun K hK => ?_
  obtain ⟨v', w', hrun, h2, h3, h4⟩ := run_appK (P := P) (w := w) (ty := o.type) (c := c) hE hown hr h1 hlen hB
  unfold Oper.wp execOp
  simp only [ho, resolve, invoke, builtin, Sem.run_bind, Sem.run_pure, Result.andThen_ok, List.map_toArray, List.map_cons, List.map_nil, hs, hx, hrun]
  exact hK _ _ (h v' w' h2 h3 h4)
theorem Rd.turned {W W' : World} {A : Option Addr} {n g : Nat} {xs : List Value} (h : Rd W A n xs) (ht : Turned g W W') (hn : ∀ ad, A = some ad → ad.block ≠ g) : Rd W' A n xs :=
  ⟨h.len, fun k u hk => by
    obtain ⟨ad, e, hc⟩ := h.at_ k u hk
    exact ⟨ad, e, (World.cell?_of_block (ht.far _ (by rw [block_of_add]; exact hn ad e))).trans hc⟩⟩
def Away (A : Option Addr) (g : Nat) : Prop := ∀ ad, A = some ad → ad.block ≠ g
def Under (A : Option Addr) (B : Nat) : Prop := ∀ ad, A = some ad → ad.block < B
theorem Away.none (g : Nat) : Away none g := fun ad e => by cases e
theorem Under.none (g : Nat) : Under none g := fun ad e => by cases e
theorem Under.away {A : Option Addr} {B g : Nat} (h : Under A B) (hg : B ≤ g) : Away A g := fun ad e hc => by have := h ad e; omega
theorem Under.le {A : Option Addr} {B C : Nat} (h : Under A B) (hg : B ≤ C) : Under A C := fun ad e => Nat.lt_of_lt_of_le (h ad e) hg
theorem KA.away {w w' : World} {A A' : Option Addr} (h : KA w w' A A') {g : Nat} (hg : g < w.heap.size) (ha : Away A g) : Away A' g := h g (.inl hg) ha
theorem KA.under {w w' : World} {A A' : Option Addr} (h : KA w w' A A') (hs : w.heap.size ≤ w'.heap.size) (ha : Under A w.heap.size) : Under A' w'.heap.size := fun ad e => by
  refine Nat.lt_of_not_le fun hc => ?_
  exact h ad.block (.inr hc) (fun ad0 e0 hx => by have := ha ad0 e0; omega) ad e rfl
theorem KA.trans {w w1 w2 : World} {A A1 A2 : Option Addr} (h : KA w w1 A A1) (h2 : KA w1 w2 A1 A2) (hs : w.heap.size ≤ w1.heap.size) (hs2 : w1.heap.size ≤ w2.heap.size) : KA w w2 A A2 := fun g hg ha => by
  rcases hg with hg | hg
  · exact h2 g (.inl (by omega)) (h g (.inl hg) ha)
  · exact h2 g (.inr hg) (h g (.inr (by omega)) ha)
/-- .. between wider worlds. -/
theorem KA.wide {w w1 w2 w3 : World} {A A1 : Option Addr} (h : KA w1 w2 A A1) (hs : w.heap.size ≤ w1.heap.size) (hs2 : w2.heap.size ≤ w3.heap.size) : KA w w3 A A1 := fun g hg ha => by
  rcases hg with hg | hg
  · exact h g (.inl (by omega)) ha
  · exact h g (.inr (by omega)) ha
theorem own_away {w : World} {B : Nat} {e : TypeId} {k n c m : Nat} {A : Option Addr} {xs : List Value} (h : w.ownsRow B e k (.slice A n c) m xs) {g : Nat} (hg : g < B) : Away A g := fun ad e2 => by
  subst e2
  have := World.ownsRow.lt h ad.block rfl
  omega
theorem own_under {w : World} {B : Nat} {e : TypeId} {k n c m : Nat} {A : Option Addr} {xs : List Value} (h : w.ownsRow B e k (.slice A n c) m xs) : Under A w.heap.size := fun ad e2 => by
  subst e2
  exact (World.ownsRow.lt h ad.block rfl).2
end Go.Proofs.YtgggpnjnhhkmgaaDoor
namespace Go.Proofs.YtgggpnjnhhkmgaaDoor
set_option linter.unusedSimpArgs false
set_option linter.unusedVariables false
open Go.RowKit
section
variable {P : Program} {e : TypeId}
theorem run_part_byte (he : P.underlying e = some (.int .u8)) (a : List UInt8) (i : Nat) (h : i < a.length) (w : World) : (Go.part e (bv a).toArray (i * 1)).run P w = .ok (.int .u8 ((a.getD i 0).toNat : Nat)) w := by
  have hagg : (isAgg e).run P w = .ok false w := by
    unfold isAgg
    rw [Sem.run_bind, run_underlying he w]
    simp
  have hc : (bv a).toArray[i]? = some (.int .u8 ((a.getD i 0).toNat : Nat)) := by simp [bv, h]
  simp [Go.part, Sem.run_bind, hagg, hc]
theorem run_eqItems_bytes (d : Nat) (he : P.underlying e = some (.int .u8)) (a b : List UInt8) (hl : a.length = b.length) (w : World) : ∀ is : List Nat, (∀ i ∈ is, i < a.length) →
    (Op.eqItems (d + 1) e 1 (bv a).toArray (bv b).toArray is).run P w = .ok (is.all fun i => a.getD i 0 == b.getD i 0) w
  | [], _ => by simp [Op.eqItems]
  | i :: is, h => by
    have hi := h i (by simp)
    have ih := run_eqItems_bytes d he a b hl w is fun j hj => h j (by simp [hj])
    have hx : ((((a.getD i 0).toNat : Nat) : Int) == (((b.getD i 0).toNat : Nat) : Int)) = (a.getD i 0 == b.getD i 0) := by
      rw [Bool.eq_iff_iff]
      simp only [beq_iff_eq]
      exact ⟨fun h => UInt8.toNat_inj.1 (by omega), fun h => by rw [h]⟩
    simp only [Op.eqItems, Sem.run_bind, run_part_byte he a i hi, run_part_byte he b i (by omega), Result.andThen_ok, run_equalIn_int w d e .u8 .u8 _ _ he, List.all_cons]
    rw [hx]
    cases hb : (a.getD i 0 == b.getD i 0)
    · simp
    · simp [ih]
theorem all_range (a b : List UInt8) (n : Nat) (ha : a.length = n) (hb : b.length = n) : ((List.range n).all fun i => a.getD i 0 == b.getD i 0) = decide (a = b) := by
  rw [Bool.eq_iff_iff]
  simp only [List.all_eq_true, List.mem_range, beq_iff_eq, decide_eq_true_eq]
  constructor
  · intro h
    apply List.ext_getElem (by omega)
    intro i h1 h2
    have := h i (by omega)
    simpa [h1, h2] using this
  · intro h i _
    rw [h]
theorem run_eql_bytes {t : TypeId} {n : Nat} {i : TypeInfo} (hu : P.underlying t = some (.array n e)) (hi : P.info? e = some i) (hc : P.cellsOf e = 1) (he : P.underlying e = some (.int .u8)) (a b : List UInt8) (ha : a.length = n) (hb : b.length = n) (w : World) :
    (binOp .eql t (.agg (bv a).toArray) (.agg (bv b).toArray)).run P w = .ok (.bool (decide (a = b))) w := by
  rw [run_eql_struct w t, run_equalIn_array w 9999 _ _ hu hi, hc, run_eqItems_bytes 9998 he a b (by omega) w (List.range n) (fun i h => by rw [ha]; simpa using h), all_range a b n ha hb]
  rfl
theorem run_neq_bytes {t : TypeId} {n : Nat} {i : TypeInfo} (hu : P.underlying t = some (.array n e)) (hi : P.info? e = some i) (hc : P.cellsOf e = 1) (he : P.underlying e = some (.int .u8)) (a b : List UInt8) (ha : a.length = n) (hb : b.length = n) (w : World) :
    (binOp .neq t (.agg (bv a).toArray) (.agg (bv b).toArray)).run P w = .ok (.bool (!decide (a = b))) w := by
  rw [run_neq_struct w t, run_equalIn_array w 9999 _ _ hu hi, hc, run_eqItems_bytes 9998 he a b (by omega) w (List.range n) (fun i h => by rw [ha]; simpa using h), all_range a b n ha hb]
  rfl
end
end Go.Proofs.YtgggpnjnhhkmgaaDoor
namespace Go.Proofs.YtgggpnjnhhkmgaaDoor
set_option linter.unusedSimpArgs false
set_option linter.unusedVariables false
open Go.RowKit Exch
theorem n256 : (256 : Nat) ^ 16 = 2 ^ 128 := rfl
abbrev dgC (n : Nat) : Array Value := (bv (dg n)).toArray
abbrev dgV (n : Nat) : Value := .agg (dgC n)
theorem bv_dg_len (n : Nat) : (bv (dg n)).length = 16 := by rw [length_bv, dg_len]
theorem dgC_size (n : Nat) : (dgC n).size = 16 := by simp [dgC, dg_len]
theorem dg_eq {a b : Nat} (ha : a < 2 ^ 128) (hb : b < 2 ^ 128) : (dg a = dg b) = (a = b) := propext ⟨fun h => dg_inj (by rw [n256]; exact ha) (by rw [n256]; exact hb) h, fun h => by rw [h]⟩
theorem eql_Dg {a b : Nat} (ha : a < 2 ^ 128) (hb : b < 2 ^ 128) (w : World) : (binOp .eql 31 (dgV a) (dgV b)).run Tryd.prog w = .ok (.bool (decide (a = b))) w := by
  obtain ⟨i, h1, h2, h3, h4⟩ := info_parts (show (Tryd.prog.info? 5).map (fun i => (i.zero, i.size, i.bytes)) = some (some (.int .u8 0), 1, 1) by kernel_rfl)
  have h := run_eql_bytes (P := Tryd.prog) (t := 31) (e := 5) (by kernel_rfl) h1 (by kernel_rfl) (by kernel_rfl) (dg a) (dg b) (dg_len a) (dg_len b) w
  rw [h]
  simp only [dg_eq ha hb]
theorem neq_Dg {a b : Nat} (ha : a < 2 ^ 128) (hb : b < 2 ^ 128) (w : World) : (binOp .neq 31 (dgV a) (dgV b)).run Tryd.prog w = .ok (.bool (!decide (a = b))) w := by
  obtain ⟨i, h1, h2, h3, h4⟩ := info_parts (show (Tryd.prog.info? 5).map (fun i => (i.zero, i.size, i.bytes)) = some (some (.int .u8 0), 1, 1) by kernel_rfl)
  have h := run_neq_bytes (P := Tryd.prog) (t := 31) (e := 5) (by kernel_rfl) h1 (by kernel_rfl) (by kernel_rfl) (dg a) (dg b) (dg_len a) (dg_len b) w
  rw [h]
  simp only [dg_eq ha hb]
theorem aggDg : (Tryd.prog.underlying 31).map isAggDesc = some true := by kernel_rfl
theorem sizeDg : (Tryd.prog.info? 31).map (·.size) = some 16 := by kernel_rfl
theorem one_dgC (n : Nat) : (dgC n).all (·.oneCell') = true := all_bv _
theorem zeroDg (W : World) : (zeroValue 31).run Tryd.prog W = .ok (dgV 0) W := by kernel_rfl
theorem build0_Dg (W : World) : (Instr.build 31 #[]).run Tryd.prog W = .ok (dgV 0) W := by kernel_rfl
theorem blk_rd {w : World} {g : Nat} {t : TypeId} {xs : List Value} (h : Blk w g t xs.toArray) : Rd w (some ⟨g, 0, none⟩) xs.length xs :=
  ⟨rfl, fun k u hk => ⟨_, rfl, by
    have h2 := h.cell k
    rw [List.getElem?_toArray, hk] at h2
    unfold Addr.add
    split
    · subst_vars; exact h2
    · rw [← h2, Nat.zero_add]⟩⟩
theorem dg_rd {w : World} {g : Nat} {t : TypeId} {n : Nat} (h : Blk w g t (dgC n)) : Rd w (some ⟨g, 0, none⟩) 16 (bv (dg n)) := by
  have := blk_rd h
  rwa [bv_dg_len] at this
/-- Digests in a row. -/
def dgsL (l : List Nat) : List Value := l.flatMap fun n => bv (dg n)
theorem length_dgsL (l : List Nat) : (dgsL l).length = l.length * 16 := length_fl bv_dg_len l
theorem dgsL_app (a b : List Nat) : dgsL (a ++ b) = dgsL a ++ dgsL b := by simp [dgsL]
theorem one_dgsL (l : List Nat) : ∀ u ∈ dgsL l, u.oneCell' = true := by
  intro u hu
  simp only [dgsL, List.mem_flatMap, bv, List.mem_map] at hu
  obtain ⟨x, _, b, _, rfl⟩ := hu
  rfl
structure RdD (W : World) (A : Option Addr) (n : Nat) (l : List Nat) : Prop where
  len : l.length = n
  rd : Rd W A (n * 16) (dgsL l)
theorem RdD.below {W W' : World} {A : Option Addr} {n : Nat} {l : List Nat} (h : RdD W A n l) (hb : Below W.heap.size W W') : RdD W' A n l := ⟨h.len, h.rd.below hb⟩
theorem RdD.none_ (W : World) : RdD W none 0 [] := ⟨rfl, Rd.none_ W⟩
theorem RdD.elem {W : World} {A : Option Addr} {n : Nat} {l : List Nat} (h : RdD W A n l) {i : Nat} (hi : i < l.length) : ∃ ad, A = some ad ∧ ∀ j u, (bv (dg l[i]))[j]? = some u → W.cell? ((ad.add (i * 16)).add j) = some u :=
  Rd.elem bv_dg_len (by omega) h.rd hi
theorem elemDg : ElemK Tryd.prog 22 31 16 := by
  obtain ⟨i, h1, h2, h3, h4⟩ := info_parts (show (Tryd.prog.info? 31).map (fun i => (i.zero, i.size, i.bytes)) = some (some (dgV 0), 16, 16) by kernel_rfl)
  exact ⟨by kernel_rfl, ⟨i, _, h1, h2, h3, by omega, rfl⟩, by omega⟩
def OwnDs (w : World) (B : Nat) (v : Value) (l : List Nat) : Prop := w.ownsRow B 31 16 v l.length (dgsL l)
theorem OwnDs.nil (w : World) (B : Nat) : OwnDs w B (.slice none 0 0) [] := World.ownsRow_nil w B _ 16
theorem OwnDs.below {w w' : World} {B : Nat} {v : Value} {l : List Nat} (h : OwnDs w B v l) (hb : Below w.heap.size w w') : OwnDs w' B v l := ownsRow_below h hb
theorem OwnDs.lower {w : World} {B C : Nat} {v : Value} {l : List Nat} (h : OwnDs w B v l) (hb : C ≤ B) : OwnDs w C v l := ownsRow_lower h hb
theorem OwnDs.form {w : World} {B : Nat} {v : Value} {l : List Nat} (h : OwnDs w B v l) : ∃ A c, v = .slice A l.length c ∧ l.length ≤ c ∧ c ≤ maxLen ∧ RdD w A l.length l := by
  obtain ⟨A, c, hv, h1, h2, hr⟩ := ownsRow_form h
  exact ⟨A, c, hv, h1, h2, rfl, hr⟩
theorem build1_D (n : Nat) (W : World) : (Instr.buildSlice 22 1 #[(0, dgV n)]).run Tryd.prog W = .ok (.slice (some ⟨W.heap.size, 0, none⟩) 1 1) (W.alloc (.cells (dgC n) 31)) := by kernel_rfl
theorem wp_lit1D {w : World} {o : Oper} {a : Act} {K : Act → World → Prop} {Q : Exit → Act → World → Prop} {y : Operand} {n : Nat} (ho : o.op = .buildSlice 22 1 #[(0, y)]) (hy : a.eval y = dgV n)
    (h : ∀ w' g, g = w.heap.size → Rd w' (some ⟨g, 0, none⟩) (1 * 16) (dgsL [n]) → Below w.heap.size w w' → K (a.put o.dst (.slice (some ⟨g, 0, none⟩) 1 1)) w') : o.wp Tryd.prog a w K Q := by
  have h2 := h _ _ rfl (by have := dg_rd (Blk.new w 31 (dgC n)); simpa [dgsL] using this) ((Below.refl _ _).alloc (Nat.le_refl _) _)
  unfold Oper.wp execOp
  simp only [ho, List.map_toArray, List.map_cons, List.map_nil, hy, build1_D, Sem.run_bind, Result.andThen_ok, Sem.run_pure]
  exact h2
theorem wpList_lit1D {w : World} {ops : Array Oper} {rest : List Oper} {o : Oper} {a : Act} {Q : Exit → Act → World → Prop} (hgd : o.guard = none) {y : Operand} {n : Nat} (ho : o.op = .buildSlice 22 1 #[(0, y)]) (hy : a.eval y = dgV n)
    (h : ∀ w' g, g = w.heap.size → Rd w' (some ⟨g, 0, none⟩) (1 * 16) (dgsL [n]) → Below w.heap.size w w' → wpList Tryd.prog ops Q rest (a.put o.dst (.slice (some ⟨g, 0, none⟩) 1 1)) w') : wpList Tryd.prog ops Q (o :: rest) a w :=
  wpList_plain hgd fun K hK => wp_lit1D ho hy fun w' g h1 h2 h3 => hK _ _ (h w' g h1 h2 h3)
/-! Leaf, Node, the root of nothing. -/
abbrev dgS (n : Nat) : ByteArray := ⟨(dg n).toArray⟩
theorem dgS_size (n : Nat) : (dgS n).size = 16 := by show (dg n).toArray.size = 16; simp [dg_len]
def leafN (t : ByteArray) : Nat := val (dig16 (inputL 30 [t]))
def nodeN (a b : Nat) : Nat := val (dig16 (inputL 31 [dgS a, dgS b]))
def emptyN : Nat := val (dig16 (inputL 32 []))
theorem digN_lt (l : List UInt8) : val (dig16 l) < 2 ^ 128 := by
  have := val_lt (dig16 l)
  rwa [length_dig16, n256] at this
theorem digN_dg (l : List UInt8) : (bv (dig16 l)).toArray = dgC (val (dig16 l)) := by rw [dgC, dg_val (length_dig16 _)]
theorem leafN_lt (t : ByteArray) : leafN t < 2 ^ 128 := digN_lt _
theorem build1_S (s : ByteArray) (W : World) : (Instr.buildSlice 72 1 #[(0, .string s)]).run Tryd.prog W = .ok (.slice (some ⟨W.heap.size, 0, none⟩) 1 1) (W.alloc (.cells #[.string s] 9)) := by kernel_rfl
theorem wpList_lit1S {w : World} {ops : Array Oper} {rest : List Oper} {o : Oper} {a : Act} {Q : Exit → Act → World → Prop} (hgd : o.guard = none) {x : Operand} {s : ByteArray} (ho : o.op = .buildSlice 72 1 #[(0, x)]) (hx : a.eval x = .string s)
    (h : ∀ w' g, g = w.heap.size → Rd w' (some ⟨g, 0, none⟩) 1 (sv [s]) → Below w.heap.size w w' → wpList Tryd.prog ops Q rest (a.put o.dst (.slice (some ⟨g, 0, none⟩) 1 1)) w') : wpList Tryd.prog ops Q (o :: rest) a w := by
  refine wpList_plain hgd fun K hK => ?_
  have h2 := h _ _ rfl (Rd.new1 w (.string s) 9) ((Below.refl _ _).alloc (Nat.le_refl _) _)
  unfold Oper.wp execOp
  simp only [ho, List.map_toArray, List.map_cons, List.map_nil, hx, build1_S, Sem.run_bind, Result.andThen_ok, Sem.run_pure]
  exact hK _ _ h2
theorem build2_S (s t : ByteArray) (W : World) : (Instr.buildSlice 72 2 #[(0, .string s), (1, .string t)]).run Tryd.prog W = .ok (.slice (some ⟨W.heap.size, 0, none⟩) 2 2) (W.alloc (.cells #[.string s, .string t] 9)) := by kernel_rfl
theorem wp_lit2S {w : World} {o : Oper} {a : Act} {K : Act → World → Prop} {Q : Exit → Act → World → Prop} {x y : Operand} {s t : ByteArray} (ho : o.op = .buildSlice 72 2 #[(0, x), (1, y)]) (hx : a.eval x = .string s) (hy : a.eval y = .string t)
    (h : ∀ w' g, g = w.heap.size → Rd w' (some ⟨g, 0, none⟩) 2 (sv [s, t]) → Below w.heap.size w w' → K (a.put o.dst (.slice (some ⟨g, 0, none⟩) 2 2)) w') : o.wp Tryd.prog a w K Q := by
  have h2 := h _ _ rfl (blk_rd (xs := sv [s, t]) (Blk.new w 9 #[.string s, .string t])) ((Below.refl _ _).alloc (Nat.le_refl _) _)
  unfold Oper.wp execOp
  simp only [ho, List.map_toArray, List.map_cons, List.map_nil, hx, hy, build2_S, Sem.run_bind, Result.andThen_ok, Sem.run_pure]
  exact h2
theorem btE : BytesTy Tryd.prog 73 5 := ⟨by kernel_rfl, by kernel_rfl⟩
theorem stE : Tryd.prog.underlying 9 = some .string := by kernel_rfl
theorem dgBox2 (w : World) (a b : Nat) : ∃ wa : World, wa = (w.alloc (.cells (dgC a) 31)).alloc (.cells (dgC b) 31) ∧ Below w.heap.size w wa ∧ Blk wa w.heap.size 31 (dgC a) ∧ Blk wa (w.heap.size + 1) 31 (dgC b) :=
  ⟨_, rfl, ((Below.refl w.heap.size w).alloc (Nat.le_refl _) _).alloc (by simp) _, (Blk.new _ _ _).alloc _, Blk.new2 _ _ _ _⟩
theorem dgBox3 (w : World) (a b c : Nat) : ∃ wa : World, wa = ((w.alloc (.cells (dgC a) 31)).alloc (.cells (dgC b) 31)).alloc (.cells (dgC c) 31) ∧ Below w.heap.size w wa ∧ Blk wa w.heap.size 31 (dgC a) ∧ Blk wa (w.heap.size + 1) 31 (dgC b) ∧ Blk wa (w.heap.size + 1 + 1) 31 (dgC c) := by
  refine ⟨_, rfl, (((Below.refl w.heap.size w).alloc (Nat.le_refl _) _).alloc (by simp) _).alloc (by simp; omega) _, ((Blk.new _ _ _).alloc _).alloc _, (Blk.new2 _ _ _ _).alloc _, ?_⟩
  have := Blk.new ((w.alloc (.cells (dgC a) 31)).alloc (.cells (dgC b) 31)) 31 (dgC c)
  simpa using this
set_option maxRecDepth 20000 in
set_option maxHeartbeats 1000000 in
theorem leaf_any (t : ByteArray) (w : World) (ht : t.size ≤ 65536) (hg : GCon w) : Calls Tryd.prog 14 #[.string t] w fun e w' => e = .returned (dgV (leafN t)) ∧ Below w.heap.size w w' := by
  have HO := Lib.hid (fun (W : World) (g : Nat) (hr : Rd W (some ⟨g, 0, none⟩) 1 (sv [t])) (hG : GCon W) => of_any 30 (some ⟨g, 0, none⟩) 1 1 [t] W (by omega) (fun s hs => by simp at hs; subst hs; exact ht) hr hG)
  rw [digN_dg] at HO
  have HG := Lib.hid hg
  clear hg
  unfold leafN
  generalize val (dig16 (inputL 30 [t])) = M at *
  go_enter Tryd.func14, Tryd.ntmps14
  go_upto_region 1 with ((with_reducible show wpList _ _ _ _ _ _); refine wpList_new (cs := dgC 0) rfl rfl zeroDg ?_; intro w0 g0 hg0 q0 hb0 lt0; have HG0 := Lib.hid hg0; clear hg0)
  go_wp2_with ((with_reducible show wpList _ _ _ _ _ _); refine wpList_lit1S rfl rfl rfl ?_; intro w1 g1 hg1 hr1 hb1; clear hg1)
  refine (HO.out _ _ hr1 (HG.out.below (bstep hb0 hb1))).mono ?_
  rintro e w2 ⟨rfl, hb2⟩
  have q2 := (q0.below hb1).below hb2
  go_wp2_with ((with_reducible show wpList _ _ _ _ _ _); refine wpList_put (vs := dgC M) rfl rfl rfl rfl q2 (by rw [dgC_size, dgC_size]) (by rw [sizeDg, dgC_size]) (one_dgC _) ?_; intro w9 ht9 b9)
  exact ret_blk rfl rfl rfl b9 aggDg (by rw [sizeDg, dgC_size]) ⟨rfl, (bstep (bstep hb0 hb1) hb2).trans (ht9.below _ (by have := HG0.out; omega))⟩
set_option maxRecDepth 20000 in
set_option maxHeartbeats 1000000 in
theorem refLeaf_any (t : ByteArray) (w : World) (ht : t.size ≤ 400) (hg : RCon w) : Calls Tryd.prog 18 #[.string t] w fun e w' => e = .returned (dgV (leafN t)) ∧ Below w.heap.size w w' := by
  have HO := Lib.hid (fun (W : World) (g : Nat) (hr : Rd W (some ⟨g, 0, none⟩) 1 (sv [t])) (hG : RCon W) => refOf_any 30 (some ⟨g, 0, none⟩) 1 1 [t] W (by omega) (fun s hs => by simp at hs; subst hs; exact ht) hr hG)
  rw [digN_dg] at HO
  have HG := Lib.hid hg
  clear hg
  unfold leafN
  generalize val (dig16 (inputL 30 [t])) = M at *
  go_enter Tryd.func18, Tryd.ntmps18
  go_upto_region 1 with ((with_reducible show wpList _ _ _ _ _ _); refine wpList_new (cs := dgC 0) rfl rfl zeroDg ?_; intro w0 g0 hg0 q0 hb0 lt0; have HG0 := Lib.hid hg0; clear hg0)
  go_wp2_with ((with_reducible show wpList _ _ _ _ _ _); refine wpList_lit1S rfl rfl rfl ?_; intro w1 g1 hg1 hr1 hb1; clear hg1)
  refine (HO.out _ _ hr1 (HG.out.below (bstep hb0 hb1))).mono ?_
  rintro e w2 ⟨rfl, hb2⟩
  have q2 := (q0.below hb1).below hb2
  go_wp2_with ((with_reducible show wpList _ _ _ _ _ _); refine wpList_put (vs := dgC M) rfl rfl rfl rfl q2 (by rw [dgC_size, dgC_size]) (by rw [sizeDg, dgC_size]) (one_dgC _) ?_; intro w9 ht9 b9)
  exact ret_blk rfl rfl rfl b9 aggDg (by rw [sizeDg, dgC_size]) ⟨rfl, (bstep (bstep hb0 hb1) hb2).trans (ht9.below _ (by have := HG0.out; omega))⟩
set_option maxRecDepth 20000 in
set_option maxHeartbeats 1000000 in
theorem empty_any (w : World) (hg : GCon w) : Calls Tryd.prog 38 #[] w fun e w' => e = .returned (dgV emptyN) ∧ Below w.heap.size w w' := by
  have HO := Lib.hid (fun (W : World) (hG : GCon W) => of_any 32 none 0 0 [] W (by omega) (fun s hs => by simp at hs) (Rd.none_ W) hG)
  rw [digN_dg] at HO
  have HG := Lib.hid hg
  clear hg
  unfold emptyN
  generalize val (dig16 (inputL 32 [])) = M at *
  go_enter Tryd.func38, Tryd.ntmps38
  go_upto_region 1 with ((with_reducible show wpList _ _ _ _ _ _); refine wpList_new (cs := dgC 0) rfl rfl zeroDg ?_; intro w0 g0 hg0 q0 hb0 lt0; have HG0 := Lib.hid hg0; clear hg0)
  go_wp2_with fail
  refine (HO.out _ (HG.out.below hb0)).mono ?_
  rintro e w2 ⟨rfl, hb2⟩
  have q2 := q0.below hb2
  go_wp2_with ((with_reducible show wpList _ _ _ _ _ _); refine wpList_put (vs := dgC M) rfl rfl rfl rfl q2 (by rw [dgC_size, dgC_size]) (by rw [sizeDg, dgC_size]) (one_dgC _) ?_; intro w9 ht9 b9)
  exact ret_blk rfl rfl rfl b9 aggDg (by rw [sizeDg, dgC_size]) ⟨rfl, (bstep hb0 hb2).trans (ht9.below _ (by have := HG0.out; omega))⟩
set_option maxRecDepth 20000 in
set_option maxHeartbeats 1000000 in
theorem refEmpty_any (w : World) (hg : RCon w) : Calls Tryd.prog 39 #[] w fun e w' => e = .returned (dgV emptyN) ∧ Below w.heap.size w w' := by
  have HO := Lib.hid (fun (W : World) (hG : RCon W) => refOf_any 32 none 0 0 [] W (by omega) (fun s hs => by simp at hs) (Rd.none_ W) hG)
  rw [digN_dg] at HO
  have HG := Lib.hid hg
  clear hg
  unfold emptyN
  generalize val (dig16 (inputL 32 [])) = M at *
  go_enter Tryd.func39, Tryd.ntmps39
  go_upto_region 1 with ((with_reducible show wpList _ _ _ _ _ _); refine wpList_new (cs := dgC 0) rfl rfl zeroDg ?_; intro w0 g0 hg0 q0 hb0 lt0; have HG0 := Lib.hid hg0; clear hg0)
  go_wp2_with fail
  refine (HO.out _ (HG.out.below hb0)).mono ?_
  rintro e w2 ⟨rfl, hb2⟩
  have q2 := q0.below hb2
  go_wp2_with ((with_reducible show wpList _ _ _ _ _ _); refine wpList_put (vs := dgC M) rfl rfl rfl rfl q2 (by rw [dgC_size, dgC_size]) (by rw [sizeDg, dgC_size]) (one_dgC _) ?_; intro w9 ht9 b9)
  exact ret_blk rfl rfl rfl b9 aggDg (by rw [sizeDg, dgC_size]) ⟨rfl, (bstep hb0 hb2).trans (ht9.below _ (by have := HG0.out; omega))⟩
set_option maxRecDepth 20000 in
set_option maxHeartbeats 1000000 in
theorem node_any (a b : Nat) (w : World) (hg : GCon w) : Calls Tryd.prog 19 #[dgV a, dgV b] w fun e w' => e = .returned (dgV (nodeN a b)) ∧ Below w.heap.size w w' := by
  have HO := Lib.hid (fun (W : World) (g : Nat) (hr : Rd W (some ⟨g, 0, none⟩) 2 (sv [dgS a, dgS b])) (hG : GCon W) => of_any 31 (some ⟨g, 0, none⟩) 2 2 [dgS a, dgS b] W (by omega) (fun s hs => by simp at hs; rcases hs with rfl | rfl <;> rw [dgS_size] <;> omega) hr hG)
  rw [digN_dg] at HO
  unfold nodeN
  generalize val (dig16 (inputL 31 [dgS a, dgS b])) = M at *
  obtain ⟨wa, hwa, hb0, q0, q1, q2⟩ := dgBox3 w a b 0
  have HWA := Lib.hid hwa
  have HG := Lib.hid (hg.below hb0)
  clear hwa hg
  go_enter Tryd.func19, Tryd.ntmps19
  go_upto_region 1 with (fail)
  change Code.wp _ _ _ _ (((w.alloc (.cells (dgC a) 31)).alloc (.cells (dgC b) 31)).alloc (.cells (dgC 0) 31))
  rw [← HWA.out]
  have hS : Below wa.heap.size wa wa.drew := (Below.refl _ _).drew
  have r0 := dg_rd q0
  have r1 := dg_rd q1
  refine wp_region_T 6 (by kernel_rfl) ?_
  refine WpT.take (i := 0) rfl (by kernel_rfl) (fun _ _ _ h => h) (.inl ⟨by rfl, fun w hSw => by clear hSw; go_simp; (try go_bits); (try rw [if_pos (by omega)]); (try with_reducible rfl)⟩) (hS) ?_
  try simp only [nrm]
  refine WpT.take (i := 1) rfl (by kernel_rfl) (fun _ _ _ h => h) (yields_bts rfl rfl btE stE (l := dg a) rfl r0) (hS) ?_
  try simp only [nrm]
  refine WpT.take (i := 2) rfl (by kernel_rfl) (fun _ _ _ h => h) (.inl ⟨by rfl, fun w hSw => by clear hSw; go_simp; (try go_bits); (try rw [if_pos (by omega)]); (try with_reducible rfl)⟩) (hS) ?_
  try simp only [nrm]
  refine WpT.take (i := 3) rfl (by kernel_rfl) (fun _ _ _ h => h) (yields_bts rfl rfl btE stE (l := dg b) rfl r1) (hS) ?_
  try simp only [nrm]
  refine WpT.one (i := 4) rfl (by kernel_rfl) (fun K hK => ?_)
  refine (if_pos (by rfl)).mpr ?_; refine wp_lit2S rfl rfl rfl ?_; intro w4 g4 hg4 hr4 hb4; clear hg4; replace hS := bstep hS hb4
  refine hK _ _ (hS) ?_; clear hK K; try simp only [nrm]
  refine WpT.one (i := 5) rfl (by kernel_rfl) (fun K hK => ?_)
  go_simp; refine (HO.out _ g4 hr4 (HG.out.below hS)).mono ?_; rintro e w5 ⟨rfl, hb5⟩; replace hS := bstep hS hb5; have q5 := q2.below hS
  refine hK _ _ (hS) ?_; clear hK K; try simp only [nrm]
  refine WpT.tail (i := 6) rfl (by kernel_rfl) (by kernel_rfl) (fun K hK => ?_)
  refine (if_pos (by rfl)).mpr ?_; refine wp_put (vs := dgC M) rfl rfl rfl q5 (by rw [dgC_size, dgC_size]) (by rw [sizeDg, dgC_size]) (one_dgC _) ?_; intro w9 ht9 b9
  refine hK _ _ ?_; clear hK K; try simp only [nrm]
  refine WpT.done (by kernel_rfl) ?_ _
  go_wp2_with fail; exact ret_blk rfl rfl rfl b9 aggDg (by rw [sizeDg, dgC_size]) ⟨rfl, (bstep hb0 hS).trans (ht9.below _ (by omega))⟩
set_option maxRecDepth 20000 in
set_option maxHeartbeats 1000000 in
theorem refNode_any (a b : Nat) (w : World) (hg : RCon w) : Calls Tryd.prog 20 #[dgV a, dgV b] w fun e w' => e = .returned (dgV (nodeN a b)) ∧ Below w.heap.size w w' := by
  have HO := Lib.hid (fun (W : World) (g : Nat) (hr : Rd W (some ⟨g, 0, none⟩) 2 (sv [dgS a, dgS b])) (hG : RCon W) => refOf_any 31 (some ⟨g, 0, none⟩) 2 2 [dgS a, dgS b] W (by omega) (fun s hs => by simp at hs; rcases hs with rfl | rfl <;> rw [dgS_size] <;> omega) hr hG)
  rw [digN_dg] at HO
  unfold nodeN
  generalize val (dig16 (inputL 31 [dgS a, dgS b])) = M at *
  obtain ⟨wa, hwa, hb0, q0, q1, q2⟩ := dgBox3 w a b 0
  have HWA := Lib.hid hwa
  have HG := Lib.hid (hg.below hb0)
  clear hwa hg
  go_enter Tryd.func20, Tryd.ntmps20
  go_upto_region 1 with (fail)
  change Code.wp _ _ _ _ (((w.alloc (.cells (dgC a) 31)).alloc (.cells (dgC b) 31)).alloc (.cells (dgC 0) 31))
  rw [← HWA.out]
  have hS : Below wa.heap.size wa wa.drew := (Below.refl _ _).drew
  have r0 := dg_rd q0
  have r1 := dg_rd q1
  refine wp_region_T 6 (by kernel_rfl) ?_
  refine WpT.take (i := 0) rfl (by kernel_rfl) (fun _ _ _ h => h) (.inl ⟨by rfl, fun w hSw => by clear hSw; go_simp; (try go_bits); (try rw [if_pos (by omega)]); (try with_reducible rfl)⟩) (hS) ?_
  try simp only [nrm]
  refine WpT.take (i := 1) rfl (by kernel_rfl) (fun _ _ _ h => h) (yields_bts rfl rfl btE stE (l := dg a) rfl r0) (hS) ?_
  try simp only [nrm]
  refine WpT.take (i := 2) rfl (by kernel_rfl) (fun _ _ _ h => h) (.inl ⟨by rfl, fun w hSw => by clear hSw; go_simp; (try go_bits); (try rw [if_pos (by omega)]); (try with_reducible rfl)⟩) (hS) ?_
  try simp only [nrm]
  refine WpT.take (i := 3) rfl (by kernel_rfl) (fun _ _ _ h => h) (yields_bts rfl rfl btE stE (l := dg b) rfl r1) (hS) ?_
  try simp only [nrm]
  refine WpT.one (i := 4) rfl (by kernel_rfl) (fun K hK => ?_)
  refine (if_pos (by rfl)).mpr ?_; refine wp_lit2S rfl rfl rfl ?_; intro w4 g4 hg4 hr4 hb4; clear hg4; replace hS := bstep hS hb4
  refine hK _ _ (hS) ?_; clear hK K; try simp only [nrm]
  refine WpT.one (i := 5) rfl (by kernel_rfl) (fun K hK => ?_)
  go_simp; refine (HO.out _ g4 hr4 (HG.out.below hS)).mono ?_; rintro e w5 ⟨rfl, hb5⟩; replace hS := bstep hS hb5; have q5 := q2.below hS
  refine hK _ _ (hS) ?_; clear hK K; try simp only [nrm]
  refine WpT.tail (i := 6) rfl (by kernel_rfl) (by kernel_rfl) (fun K hK => ?_)
  refine (if_pos (by rfl)).mpr ?_; refine wp_put (vs := dgC M) rfl rfl rfl q5 (by rw [dgC_size, dgC_size]) (by rw [sizeDg, dgC_size]) (one_dgC _) ?_; intro w9 ht9 b9
  refine hK _ _ ?_; clear hK K; try simp only [nrm]
  refine WpT.done (by kernel_rfl) ?_ _
  go_wp2_with fail; exact ret_blk rfl rfl rfl b9 aggDg (by rw [sizeDg, dgC_size]) ⟨rfl, (bstep hb0 hS).trans (ht9.below _ (by omega))⟩
/-- What hashes two digests, what hashes none: letters from here on. -/
structure Nds (nd : Nat → Nat → Nat) (em : Nat) : Prop where
  lt : ∀ a b, nd a b < 2 ^ 128
  lt0 : em < 2 ^ 128
  node : ∀ (a b : Nat) (w : World), GCon w → Calls Tryd.prog 19 #[dgV a, dgV b] w fun e w' => e = .returned (dgV (nd a b)) ∧ Below w.heap.size w w'
  empty : ∀ w : World, GCon w → Calls Tryd.prog 38 #[] w fun e w' => e = .returned (dgV em) ∧ Below w.heap.size w w'
  refNode : ∀ (a b : Nat) (w : World), RCon w → Calls Tryd.prog 20 #[dgV a, dgV b] w fun e w' => e = .returned (dgV (nd a b)) ∧ Below w.heap.size w w'
  refEmpty : ∀ w : World, RCon w → Calls Tryd.prog 39 #[] w fun e w' => e = .returned (dgV em) ∧ Below w.heap.size w w'
theorem nds : Nds nodeN emptyN := ⟨fun _ _ => digN_lt _, digN_lt _, node_any, empty_any, refNode_any, refEmpty_any⟩
end Go.Proofs.YtgggpnjnhhkmgaaDoor
namespace Go.Proofs.YtgggpnjnhhkmgaaDoor.Merk
set_option linter.unusedSimpArgs false
set_option linter.unusedVariables false
/-- The greatest power of 2 that is less than n (at least 2). -/
def split (n : Nat) : Nat := 2 ^ (n - 1).log2
theorem split_pos (n : Nat) : 0 < split n := Nat.pow_pos (by omega)
theorem split_lt {n : Nat} (h : 2 ≤ n) : split n < n := by
  have := Nat.log2_self_le (n := n - 1) (by omega)
  unfold split; omega
theorem split_le {n : Nat} : n ≤ 2 * split n := by
  have := Nat.lt_log2_self (n := n - 1)
  unfold split; rw [Nat.pow_succ] at this; omega
theorem split_is {n j : Nat} (h : 2 ^ j < n) (h2 : n ≤ 2 * 2 ^ j) : split n = 2 ^ j := by
  unfold split
  have hp := Nat.pow_pos (n := j) (show 0 < 2 by omega)
  have e : (n - 1).log2 = j := (Nat.log2_eq_iff (by omega)).2 ⟨by omega, by rw [Nat.pow_succ]; omega⟩
  rw [e]
section
variable (nd : Nat → Nat → Nat) (em : Nat)
def root (l : List Nat) : Nat :=
  if h : 2 ≤ l.length then nd (root (l.take (split l.length))) (root (l.drop (split l.length))) else l.headD em
termination_by l.length
decreasing_by
  · have := split_lt h; simp; omega
  · have := split_pos l.length; simp; omega
theorem root_two {l : List Nat} (h : 2 ≤ l.length) : root nd em l = nd (root nd em (l.take (split l.length))) (root nd em (l.drop (split l.length))) := by
  rw [root, dif_pos h]
theorem root_one (x : Nat) : root nd em [x] = x := by rw [root, dif_neg (by simp)]; rfl
theorem root_nil : root nd em [] = em := by rw [root, dif_neg (by simp)]; rfl
def incl (l : List Nat) (i : Nat) : List Nat :=
  if h : 2 ≤ l.length then
    if i < split l.length then incl (l.take (split l.length)) i ++ [root nd em (l.drop (split l.length))]
    else incl (l.drop (split l.length)) (i - split l.length) ++ [root nd em (l.take (split l.length))]
  else []
termination_by l.length
decreasing_by
  · have := split_lt h; simp; omega
  · have := split_pos l.length; simp; omega
def csy (l : List Nat) (m : Nat) (mark : Bool) : List Nat :=
  if m = l.length then (if mark then [] else [root nd em l])
  else if h : 2 ≤ l.length then
    if m ≤ split l.length then csy (l.take (split l.length)) m mark ++ [root nd em (l.drop (split l.length))]
    else csy (l.drop (split l.length)) (m - split l.length) false ++ [root nd em (l.take (split l.length))]
  else []
termination_by l.length
decreasing_by
  · have := split_lt h; simp; omega
  · have := split_pos l.length; simp; omega
def many (l : List Nat) (fr : Nat) (ps : List Nat) : List Nat :=
  if ps = [] then [root nd em l]
  else if h : 2 ≤ l.length then
    many (l.take (split l.length)) fr (ps.filter (fun p => p < fr + split l.length)) ++ many (l.drop (split l.length)) (fr + split l.length) (ps.filter (fun p => fr + split l.length ≤ p))
  else []
termination_by l.length
decreasing_by
  · have := split_lt h; simp; omega
  · have := split_pos l.length; simp; omega
/-- A path that is gone through, and whether it was short. -/
structure Pth where
  l : List Nat
  short : Bool
def Pth.last (p : Pth) : Nat × Pth := if h : p.l = [] then (0, ⟨[], true⟩) else (p.l.getLast h, ⟨p.l.dropLast, p.short⟩)
def Pth.first (p : Pth) : Nat × Pth := match p.l with | [] => (0, ⟨[], true⟩) | x :: l => (x, ⟨l, p.short⟩)
def climbI (leaf : Nat) (i n : Nat) (p : Pth) : Nat × Pth :=
  if h : 2 ≤ n then
    if i < split n then (nd (climbI leaf i (split n) p.last.2).1 p.last.1, (climbI leaf i (split n) p.last.2).2)
    else (nd p.last.1 (climbI leaf (i - split n) (n - split n) p.last.2).1, (climbI leaf (i - split n) (n - split n) p.last.2).2)
  else (leaf, p)
termination_by n
decreasing_by
  all_goals first | exact split_lt h | (have := split_pos n; omega)
def climbC (old : Nat) (m n : Nat) (mark : Bool) (p : Pth) : Nat × Nat × Pth :=
  if m = n then (if mark then (old, old, p) else (p.last.1, p.last.1, p.last.2))
  else if h : 2 ≤ n then
    if m ≤ split n then ((climbC old m (split n) mark p.last.2).1, nd (climbC old m (split n) mark p.last.2).2.1 p.last.1, (climbC old m (split n) mark p.last.2).2.2)
    else (nd p.last.1 (climbC old (m - split n) (n - split n) false p.last.2).1, nd p.last.1 (climbC old (m - split n) (n - split n) false p.last.2).2.1, (climbC old (m - split n) (n - split n) false p.last.2).2.2)
  else (0, 0, p)
termination_by n
decreasing_by
  all_goals first | exact split_lt h | (have := split_pos n; omega)
/-- The root of a part, the path behind it, the digests found behind it. -/
def climbM (fr n : Nat) (ps : List Nat) (p q : Pth) : Nat × Pth × Pth :=
  if ps = [] then (p.first.1, p.first.2, q)
  else if h : 2 ≤ n then
    (nd (climbM fr (split n) (ps.filter (fun x => x < fr + split n)) p q).1
      (climbM (fr + split n) (n - split n) (ps.filter (fun x => fr + split n ≤ x)) (climbM fr (split n) (ps.filter (fun x => x < fr + split n)) p q).2.1 (climbM fr (split n) (ps.filter (fun x => x < fr + split n)) p q).2.2).1,
      (climbM (fr + split n) (n - split n) (ps.filter (fun x => fr + split n ≤ x)) (climbM fr (split n) (ps.filter (fun x => x < fr + split n)) p q).2.1 (climbM fr (split n) (ps.filter (fun x => x < fr + split n)) p q).2.2).2)
  else (q.first.1, p, q.first.2)
termination_by n
decreasing_by
  all_goals first | exact split_lt h | (have := split_pos n; omega)
/-! Proofs are accepted. -/
theorem last_app (a : List Nat) (x : Nat) (s : Bool) : Pth.last ⟨a ++ [x], s⟩ = (x, ⟨a, s⟩) := by
  unfold Pth.last; rw [dif_neg (by simp)]; simp
theorem first_cons (a : List Nat) (x : Nat) (s : Bool) : Pth.first ⟨x :: a, s⟩ = (x, ⟨a, s⟩) := rfl
theorem climbI_incl (k : Nat) : ∀ (l : List Nat) (i : Nat) (q : List Nat) (s : Bool), l.length ≤ k → (hi : i < l.length) → climbI nd (l[i]) i l.length ⟨q ++ incl nd em l i, s⟩ = (root nd em l, ⟨q, s⟩) := by
  induction k with
  | zero => intro l i q s hk hi; omega
  | succ k ih =>
    intro l i q s hk hi
    rw [climbI, incl]
    by_cases h : 2 ≤ l.length
    · have h1 := split_lt h
      have h2 := split_pos l.length
      rw [dif_pos h, dif_pos h]
      by_cases hik : i < split l.length
      · rw [if_pos hik, if_pos hik, ← List.append_assoc, last_app]
        have hl : (l.take (split l.length)).length = split l.length := by simp; omega
        have := ih (l.take (split l.length)) i q s (by omega) (by omega)
        simp only [hl, List.getElem_take] at this
        simp only [this]
        rw [root_two nd em h]
      · rw [if_neg hik, if_neg hik, ← List.append_assoc, last_app]
        have hl : (l.drop (split l.length)).length = l.length - split l.length := by simp
        have := ih (l.drop (split l.length)) (i - split l.length) q s (by omega) (by omega)
        have e : split l.length + (i - split l.length) = i := by omega
        simp only [hl, List.getElem_drop, e] at this
        simp only [this]
        rw [root_two nd em h]
    · rw [dif_neg h, dif_neg h, List.append_nil]
      match l, h with
      | [x], _ =>
        have : i = 0 := by simp at hi; exact hi
        subst this
        rw [root_one]; rfl
      | [], _ => simp at hi
      | x :: y :: l, h => simp at h
theorem climbC_old (old n : Nat) (p : Pth) : climbC nd old n n true p = (old, old, p) := by rw [climbC, if_pos rfl, if_pos rfl]
theorem climbC_end (old n : Nat) (p : Pth) : climbC nd old n n false p = (p.last.1, p.last.1, p.last.2) := by rw [climbC, if_pos rfl, if_neg (by simp)]
theorem climbC_left {m n : Nat} (old : Nat) (mark : Bool) (p : Pth) (h : m < n) (h1 : 1 ≤ m) (hk : m ≤ split n) : climbC nd old m n mark p = ((climbC nd old m (split n) mark p.last.2).1, nd (climbC nd old m (split n) mark p.last.2).2.1 p.last.1, (climbC nd old m (split n) mark p.last.2).2.2) := by
  rw [climbC, if_neg (by omega), dif_pos (by omega), if_pos hk]
theorem climbC_right {m n : Nat} (old : Nat) (mark : Bool) (p : Pth) (h : m < n) (h1 : 1 ≤ m) (hk : ¬ m ≤ split n) : climbC nd old m n mark p = (nd p.last.1 (climbC nd old (m - split n) (n - split n) false p.last.2).1, nd p.last.1 (climbC nd old (m - split n) (n - split n) false p.last.2).2.1, (climbC nd old (m - split n) (n - split n) false p.last.2).2.2) := by
  rw [climbC, if_neg (by omega), dif_pos (by omega), if_neg hk]
theorem climbC_csy (k : Nat) : ∀ (l : List Nat) (m : Nat) (mark : Bool) (q : List Nat) (s : Bool) (old : Nat), l.length ≤ k → 1 ≤ m → m ≤ l.length → (mark = true → old = root nd em (l.take m)) →
    climbC nd old m l.length mark ⟨q ++ csy nd em l m mark, s⟩ = (root nd em (l.take m), root nd em l, ⟨q, s⟩) := by
  induction k with
  | zero => intro l m mark q s old hk h1 h2; omega
  | succ k ih =>
    intro l m mark q s old hk h1 h2 hold
    rw [climbC, csy]
    by_cases he : m = l.length
    · rw [if_pos he, if_pos he, he, List.take_of_length_le (Nat.le_refl _)]
      rw [he, List.take_of_length_le (Nat.le_refl _)] at hold
      cases mark with
      | true => simp [hold rfl]
      | false => simp [last_app]
    · have h : 2 ≤ l.length := by omega
      have k1 := split_lt h
      have k2 := split_pos l.length
      rw [if_neg he, if_neg he, dif_pos h, dif_pos h]
      by_cases hik : m ≤ split l.length
      · rw [if_pos hik, if_pos hik, ← List.append_assoc, last_app]
        have hl : (l.take (split l.length)).length = split l.length := by simp; omega
        have et : (l.take (split l.length)).take m = l.take m := by rw [List.take_take, Nat.min_eq_left hik]
        have := ih (l.take (split l.length)) m mark q s old (by omega) h1 (by omega) (by rw [et]; exact hold)
        rw [hl, et] at this
        simp only [this]
        rw [root_two nd em h]
      · rw [if_neg hik, if_neg hik, ← List.append_assoc, last_app]
        have hl : (l.drop (split l.length)).length = l.length - split l.length := by simp
        have := ih (l.drop (split l.length)) (m - split l.length) false q s old (by omega) (by omega) (by omega) (fun e => by cases e)
        rw [hl] at this
        simp only [this]
        have hlm : (l.take m).length = m := by simp; omega
        have es : split m = split l.length := by
          have h3 : l.length ≤ 2 * split l.length := split_le
          exact split_is (j := (l.length - 1).log2) (by show split l.length < m; omega) (by show m ≤ 2 * split l.length; omega)
        have e2 : root nd em (l.take m) = nd (root nd em (l.take (split l.length))) (root nd em ((l.drop (split l.length)).take (m - split l.length))) := by
          rw [root_two nd em (by omega), hlm, es, List.take_take, Nat.min_eq_left (by omega), List.drop_take]
        rw [e2, root_two nd em h]
theorem climbC_false (k : Nat) : ∀ (m n : Nat) (p : Pth) (old old' : Nat), n ≤ k → 1 ≤ m → m ≤ n → climbC nd old m n false p = climbC nd old' m n false p := by
  induction k with
  | zero => intro m n p old old' hk h1 h2; omega
  | succ k ih =>
    intro m n p old old' hk h1 h2
    by_cases he : m = n
    · subst he; rw [climbC_end, climbC_end]
    · have k1 := split_lt (n := n) (by omega)
      have k2 := split_pos n
      by_cases hik : m ≤ split n
      · rw [climbC_left nd old false p (by omega) h1 hik, climbC_left nd old' false p (by omega) h1 hik, ih m (split n) p.last.2 old old' (by omega) h1 hik]
      · rw [climbC_right nd old false p (by omega) h1 hik, climbC_right nd old' false p (by omega) h1 hik, ih (m - split n) (n - split n) p.last.2 old old' (by omega) (by omega) (by omega)]
/-- Only where the number is a power of 2, the old root is used. -/
theorem climbC_free (k : Nat) : ∀ (m n : Nat) (p : Pth) (old old' : Nat), n ≤ k → 1 ≤ m → m < n → (∀ j, m ≠ 2 ^ j) → climbC nd old m n true p = climbC nd old' m n true p := by
  induction k with
  | zero => intro m n p old old' hk h1 h2; omega
  | succ k ih =>
    intro m n p old old' hk h1 h2 hm
    have k1 := split_lt (n := n) (by omega)
    have k2 := split_pos n
    by_cases hik : m ≤ split n
    · have hne : m ≠ split n := hm _
      rw [climbC_left nd old true p h2 h1 hik, climbC_left nd old' true p h2 h1 hik, ih m (split n) p.last.2 old old' (by omega) h1 (by omega) hm]
    · rw [climbC_right nd old true p h2 h1 hik, climbC_right nd old' true p h2 h1 hik, climbC_false nd k (m - split n) (n - split n) p.last.2 old old' (by omega) (by omega) (by omega)]
/-! Several elements. -/
theorem asc_cut {ps : List Nat} (c : Nat) (h : ps.Pairwise (· < ·)) : ps.filter (fun x => x < c) ++ ps.filter (fun x => c ≤ x) = ps := by
  induction ps with
  | nil => rfl
  | cons x ps ih =>
    rw [List.pairwise_cons] at h
    by_cases hx : x < c
    · rw [List.filter_cons_of_pos (by simpa using hx), List.filter_cons_of_neg (by simp; omega), List.cons_append, ih h.2]
    · have h0 : ps.filter (fun x => x < c) = [] := by
        rw [List.filter_eq_nil_iff]; intro y hy; have := h.1 y hy; simp; omega
      have h1 : ps.filter (fun x => c ≤ x) = ps := by
        rw [List.filter_eq_self]; intro y hy; have := h.1 y hy; simp; omega
      rw [List.filter_cons_of_neg (by simpa using hx), List.filter_cons_of_pos (by simp; omega), h0, h1]; rfl
def fnd (l : List Nat) (fr : Nat) (ps : List Nat) : List Nat := ps.map fun i => l.getD (i - fr) 0
theorem climbM_many (k : Nat) : ∀ (l : List Nat) (fr : Nat) (ps : List Nat) (p q : List Nat) (s s' : Bool), l.length ≤ k → 1 ≤ l.length → ps.Pairwise (· < ·) → (∀ x ∈ ps, fr ≤ x ∧ x < fr + l.length) →
    climbM nd fr l.length ps ⟨many nd em l fr ps ++ p, s⟩ ⟨fnd l fr ps ++ q, s'⟩ = (root nd em l, ⟨p, s⟩, ⟨q, s'⟩) := by
  induction k with
  | zero => intro l fr ps p q s s' hk h1; omega
  | succ k ih =>
    intro l fr ps p q s s' hk h1 hp hr
    rw [climbM, many]
    by_cases he : ps = []
    · subst he; rw [if_pos rfl, if_pos rfl]; rfl
    · rw [if_neg he, if_neg he]
      by_cases h : 2 ≤ l.length
      · have k1 := split_lt h
        have k2 := split_pos l.length
        rw [dif_pos h, dif_pos h]
        have hl : (l.take (split l.length)).length = split l.length := by simp; omega
        have hl2 : (l.drop (split l.length)).length = l.length - split l.length := by simp
        have i1 := fun p q s s' => ih (l.take (split l.length)) fr (ps.filter (fun x => x < fr + split l.length)) p q s s' (by omega) (by omega) (hp.filter _) (fun x hx => by
          have := List.mem_filter.1 hx; have h2 := hr x this.1; have h3 := this.2; simp at h3; omega)
        have i2 := fun p q s s' => ih (l.drop (split l.length)) (fr + split l.length) (ps.filter (fun x => fr + split l.length ≤ x)) p q s s' (by omega) (by omega) (hp.filter _) (fun x hx => by
          have := List.mem_filter.1 hx; have h2 := hr x this.1; have h3 := this.2; simp at h3; omega)
        simp only [hl] at i1
        simp only [hl2] at i2
        have ef : fnd l fr ps = fnd (l.take (split l.length)) fr (ps.filter (fun x => x < fr + split l.length)) ++ fnd (l.drop (split l.length)) (fr + split l.length) (ps.filter (fun x => fr + split l.length ≤ x)) := by
          have h4 := asc_cut (fr + split l.length) hp
          unfold fnd
          conv => lhs; rw [← h4]
          rw [List.map_append]
          congr 1
          · refine List.map_congr_left fun x hx => ?_
            have := List.mem_filter.1 hx; have h2 := hr x this.1; have h3 := this.2; simp at h3
            simp only [List.getD_eq_getElem?_getD]
            rw [List.getElem?_take_of_lt (by omega)]
          · refine List.map_congr_left fun x hx => ?_
            have := List.mem_filter.1 hx; have h2 := hr x this.1; have h3 := this.2; simp at h3
            simp only [List.getD_eq_getElem?_getD, List.getElem?_drop]
            congr 2; omega
        rw [ef, List.append_assoc, List.append_assoc, i1, i2, root_two nd em h]
      · rw [dif_neg h, dif_neg h]
        match l, h, h1 with
        | [x], _, _ =>
          have : ps = [fr] := by
            cases ps with
            | nil => exact absurd rfl he
            | cons y ps =>
              have hy := hr y (by simp)
              cases ps with
              | nil => simp at hy; congr; omega
              | cons z ps =>
                have hz := hr z (by simp)
                have := (List.pairwise_cons.1 hp).1 z (by simp)
                simp at hy hz; omega
          subst this
          rw [root_one]; simp [fnd, Pth.first]
        | [], _, h1 => simp at h1
        | x :: y :: l, h, _ => simp at h
/-! What binds. -/
def dirs (i n : Nat) : List Bool :=
  if h : 2 ≤ n then if i < split n then dirs i (split n) ++ [false] else dirs (i - split n) (n - split n) ++ [true] else []
termination_by n
decreasing_by
  all_goals first | exact split_lt h | (have := split_pos n; omega)
def turn (d x : Nat) (t : Bool) : Nat × Nat := if t then (x, d) else (d, x)
def steps (d : Nat) : List Bool → List Nat → List (Nat × Nat)
  | t :: ts, x :: xs => turn d x t :: steps (nd (turn d x t).1 (turn d x t).2) ts xs
  | _, _ => []
def climbed (d : Nat) : List Bool → List Nat → Nat
  | t :: ts, x :: xs => climbed (nd (turn d x t).1 (turn d x t).2) ts xs
  | _, _ => d
theorem climbed_snoc (t : Bool) (x : Nat) : ∀ (d : Nat) (ts : List Bool) (xs : List Nat), ts.length = xs.length → climbed nd d (ts ++ [t]) (xs ++ [x]) = nd (turn (climbed nd d ts xs) x t).1 (turn (climbed nd d ts xs) x t).2
  | d, [], [], _ => rfl
  | d, t' :: ts, x' :: xs, h => by
    simp only [List.cons_append, climbed]
    exact climbed_snoc t x _ ts xs (by simpa using h)
  | d, [], x' :: xs, h => by simp at h
  | d, t' :: ts, [], h => by simp at h
theorem last_short (s : Bool) : Pth.last ⟨[], s⟩ = (0, ⟨[], true⟩) := by unfold Pth.last; rw [dif_pos rfl]
theorem climbI_short (k : Nat) : ∀ (leaf i n : Nat) (p : Pth), n ≤ k → p.short = true → (climbI nd leaf i n p).2.short = true := by
  induction k with
  | zero => intro leaf i n p hk h; rw [climbI, dif_neg (by omega)]; exact h
  | succ k ih =>
    intro leaf i n p hk h
    rw [climbI]
    have hs : p.last.2.short = true := by unfold Pth.last; split <;> first | rfl | exact h
    by_cases h2 : 2 ≤ n
    · have k1 := split_lt h2
      have k2 := split_pos n
      rw [dif_pos h2]
      split
      · exact ih leaf i (split n) _ (by omega) hs
      · exact ih leaf (i - split n) (n - split n) _ (by omega) hs
    · rw [dif_neg h2]; exact h
/-- What is accepted has as many digests as turns. -/
theorem climbI_ok (k : Nat) : ∀ (leaf i n : Nat) (p q : List Nat), n ≤ k → (climbI nd leaf i n ⟨p, false⟩).2 = ⟨q, false⟩ → ∃ p', p = q ++ p' ∧ p'.length = (dirs i n).length ∧ (climbI nd leaf i n ⟨p, false⟩).1 = climbed nd leaf (dirs i n) p' := by
  induction k with
  | zero => intro leaf i n p q hk h; rw [climbI, dif_neg (by omega)] at h ⊢; rw [dirs, dif_neg (by omega)]; exact ⟨[], by simp at h; simp [h], rfl, rfl⟩
  | succ k ih =>
    intro leaf i n p q hk h
    by_cases h2 : 2 ≤ n
    · have k1 := split_lt h2
      have k2 := split_pos n
      rw [climbI, dif_pos h2] at h ⊢
      rw [dirs, dif_pos h2]
      rcases List.eq_nil_or_concat p with rfl | ⟨p0, x, rfl⟩
      · rw [last_short] at h
        split at h
        · have := climbI_short nd k leaf i (split n) ⟨[], true⟩ (by omega) rfl; simp only at h; rw [h] at this; cases this
        · have := climbI_short nd k leaf (i - split n) (n - split n) ⟨[], true⟩ (by omega) rfl; simp only at h; rw [h] at this; cases this
      · rw [List.concat_eq_append, last_app] at h ⊢
        by_cases hik : i < split n
        · rw [if_pos hik] at h ⊢; rw [if_pos hik]
          obtain ⟨p', rfl, e2, e3⟩ := ih leaf i (split n) p0 q (by omega) h
          exact ⟨p' ++ [x], by simp, by simp [e2], by rw [climbed_snoc nd _ _ _ _ _ e2.symm, ← e3]; rfl⟩
        · rw [if_neg hik] at h ⊢; rw [if_neg hik]
          obtain ⟨p', rfl, e2, e3⟩ := ih leaf (i - split n) (n - split n) p0 q (by omega) h
          exact ⟨p' ++ [x], by simp, by simp [e2], by rw [climbed_snoc nd _ _ _ _ _ e2.symm, ← e3]; rfl⟩
    · rw [climbI, dif_neg h2] at h ⊢; rw [dirs, dif_neg h2]; exact ⟨[], by simp at h; simp [h], rfl, rfl⟩
theorem steps_len : ∀ (d : Nat) (ts : List Bool) (xs : List Nat), (steps nd d ts xs).length = min ts.length xs.length
  | d, [], xs => by simp [steps]
  | d, t :: ts, [] => by simp [steps]
  | d, t :: ts, x :: xs => by simp only [steps, List.length_cons]; rw [steps_len]; omega
theorem turn_ne {a b x y : Nat} (t : Bool) (h : a ≠ b) : turn a x t ≠ turn b y t := by
  cases t <;> simp [turn] <;> intro h2 <;> first | exact absurd h2 h | skip
  exact h
theorem binds : ∀ (ts : List Bool) (a b : Nat) (p q : List Nat), a ≠ b → p.length = ts.length → q.length = ts.length → climbed nd a ts p = climbed nd b ts q →
    ∃ (k : Nat) (u v : Nat × Nat), (steps nd a ts p)[k]? = some u ∧ (steps nd b ts q)[k]? = some v ∧ u ≠ v ∧ nd u.1 u.2 = nd v.1 v.2
  | [], a, b, p, q, h, hp, hq, e => by
    obtain rfl := List.eq_nil_of_length_eq_zero hp
    obtain rfl := List.eq_nil_of_length_eq_zero hq
    exact absurd e h
  | t :: ts, a, b, [], q, h, hp, hq, e => by simp at hp
  | t :: ts, a, b, x :: p, [], h, hp, hq, e => by simp at hq
  | t :: ts, a, b, x :: p, y :: q, h, hp, hq, e => by
    by_cases hn : nd (turn a x t).1 (turn a x t).2 = nd (turn b y t).1 (turn b y t).2
    · exact ⟨0, _, _, rfl, rfl, turn_ne t h, hn⟩
    · obtain ⟨k, u, v, h1, h2, h3, h4⟩ := binds ts _ _ p q hn (by simpa using hp) (by simpa using hq) e
      exact ⟨k + 1, u, v, h1, h2, h3, h4⟩
/-! Peaks. -/
def topN : List Nat → Nat
  | [] => em
  | [x] => x
  | x :: l => nd x (topN l)
theorem topN_cons (x : Nat) (l : List Nat) (h : l ≠ []) : topN nd em (x :: l) = nd x (topN nd em l) := by
  cases l with
  | nil => exact absurd rfl h
  | cons y l => rfl
def t1 (n : Nat) : Nat := if n % 2 = 1 then 1 + t1 (n / 2) else 0
decreasing_by omega
def ones (n : Nat) : Nat := if n = 0 then 0 else n % 2 + ones (n / 2)
decreasing_by omega
theorem t1_le (k : Nat) : ∀ n, n ≤ k → t1 n ≤ ones n := by
  induction k with
  | zero => intro n h; obtain rfl : n = 0 := by omega
            rw [t1, if_neg (by omega)]; omega
  | succ k ih =>
    intro n h
    rw [t1, ones]
    by_cases h0 : n % 2 = 1
    · rw [if_pos h0, if_neg (by omega)]; have := ih (n / 2) (by omega); omega
    · rw [if_neg h0]; omega
/-- Low digits. -/
theorem ones_add (j : Nat) : ∀ r, r < 2 ^ j → ones (2 ^ j + r) = 1 + ones r := by
  induction j with
  | zero => intro r h; obtain rfl : r = 0 := by simp at h; exact h
            simp [ones]
  | succ j ih =>
    intro r h
    rw [Nat.pow_succ] at h ⊢
    have hp := Nat.pow_pos (n := j) (show 0 < 2 by omega)
    rw [ones, if_neg (by omega), show (2 ^ j * 2 + r) / 2 = 2 ^ j + r / 2 by omega, ih (r / 2) (by omega)]
    by_cases h0 : r = 0
    · subst h0; simp
    · conv => rhs; rw [ones, if_neg h0]
      omega
theorem t1_add (j : Nat) : ∀ r, r + 1 < 2 ^ j → t1 (2 ^ j + r) = t1 r := by
  induction j with
  | zero => intro r h; simp at h
  | succ j ih =>
    intro r h
    rw [Nat.pow_succ] at h ⊢
    have hp := Nat.pow_pos (n := j) (show 0 < 2 by omega)
    rw [t1]
    conv => rhs; rw [t1]
    by_cases h0 : r % 2 = 1
    · rw [if_pos (by omega), if_pos h0, show (2 ^ j * 2 + r) / 2 = 2 ^ j + r / 2 by omega, ih (r / 2) (by omega)]
    · rw [if_neg (by omega), if_neg h0]
theorem t1_all (j : Nat) : t1 (2 ^ j - 1) = j ∧ ones (2 ^ j - 1) = j := by
  induction j with
  | zero => refine ⟨?_, ?_⟩; rw [t1, if_neg (by simp)]; rw [ones, if_pos (by simp)]
  | succ j ih =>
    have hp := Nat.pow_pos (n := j) (show 0 < 2 by omega)
    rw [Nat.pow_succ]
    refine ⟨?_, ?_⟩
    · rw [t1, if_pos (by omega), show (2 ^ j * 2 - 1) / 2 = 2 ^ j - 1 by omega, ih.1]; omega
    · rw [ones, if_neg (by omega), show (2 ^ j * 2 - 1) / 2 = 2 ^ j - 1 by omega, ih.2]; omega
def big (n : Nat) : Nat := 2 ^ n.log2
theorem big_pos (n : Nat) : 0 < big n := Nat.pow_pos (by omega)
theorem big_le {n : Nat} (h : 1 ≤ n) : big n ≤ n := Nat.log2_self_le (by omega)
theorem big_lt (n : Nat) : n < 2 * big n := by
  have := Nat.lt_log2_self (n := n)
  unfold big; rw [Nat.pow_succ] at this; omega
theorem big_is {n j : Nat} (h : 2 ^ j ≤ n) (h2 : n < 2 * 2 ^ j) : big n = 2 ^ j := by
  unfold big
  have hp := Nat.pow_pos (n := j) (show 0 < 2 by omega)
  rw [(Nat.log2_eq_iff (by omega)).2 ⟨h, by rw [Nat.pow_succ]; omega⟩]
def peaks (l : List Nat) : List Nat :=
  if h : l = [] then [] else root nd em (l.take (big l.length)) :: peaks (l.drop (big l.length))
termination_by l.length
decreasing_by
  have := big_pos l.length
  have : 0 < l.length := by cases l <;> simp_all
  simp; omega
theorem peaks_nil : peaks nd em [] = [] := by rw [peaks, dif_pos rfl]
theorem peaks_cons {l : List Nat} (h : l ≠ []) : peaks nd em l = root nd em (l.take (big l.length)) :: peaks nd em (l.drop (big l.length)) := by rw [peaks, dif_neg h]
theorem pos_len {l : List Nat} (h : l ≠ []) : 1 ≤ l.length := by cases l <;> simp_all
theorem peaks_len (k : Nat) : ∀ l : List Nat, l.length ≤ k → (peaks nd em l).length = ones l.length := by
  induction k with
  | zero => intro l h; obtain rfl := List.eq_nil_of_length_eq_zero (Nat.le_zero.1 h); rw [peaks_nil, ones, if_pos (by simp)]; rfl
  | succ k ih =>
    intro l h
    by_cases h0 : l = []
    · subst h0; rw [peaks_nil, ones, if_pos (by simp)]; rfl
    · have h1 := pos_len h0
      have h2 := big_le h1
      have h3 := big_lt l.length
      have h4 := big_pos l.length
      rw [peaks_cons nd em h0, List.length_cons, ih _ (by simp; omega), List.length_drop]
      have := ones_add l.length.log2 (l.length - big l.length) (by show _ < big l.length; omega)
      rw [show 2 ^ l.length.log2 + (l.length - big l.length) = l.length by show big l.length + _ = _; omega] at this
      omega
theorem peaks_root (k : Nat) : ∀ l : List Nat, l.length ≤ k → topN nd em (peaks nd em l) = root nd em l := by
  induction k with
  | zero => intro l h; obtain rfl := List.eq_nil_of_length_eq_zero (Nat.le_zero.1 h); rw [peaks_nil, root_nil]; rfl
  | succ k ih =>
    intro l h
    by_cases h0 : l = []
    · subst h0; rw [peaks_nil, root_nil]; rfl
    · have h1 := pos_len h0
      have h2 := big_le h1
      have h3 := big_lt l.length
      have h4 := big_pos l.length
      rw [peaks_cons nd em h0]
      by_cases h5 : big l.length = l.length
      · rw [h5, List.take_of_length_le (Nat.le_refl _), List.drop_of_length_le (Nat.le_refl _), peaks_nil]; rfl
      · have h6 : l.drop (big l.length) ≠ [] := by intro e; have := congrArg List.length e; simp at this; omega
        rw [topN_cons nd em _ _ (by rw [peaks_cons nd em h6]; simp), ih _ (by simp; omega)]
        have es : split l.length = big l.length := split_is (j := l.length.log2) (by show big l.length < _; omega) (by show _ ≤ 2 * big l.length; omega)
        rw [root_two nd em (l := l) (by omega), es]
def grow (tops : List Nat) (size : Nat) (leaf : Nat) : List Nat := tops.take (tops.length - t1 size) ++ [(tops.drop (tops.length - t1 size)).foldr nd leaf]
theorem peaks_grow (k : Nat) : ∀ (l : List Nat) (x : Nat), l.length ≤ k → peaks nd em (l ++ [x]) = grow nd (peaks nd em l) l.length x := by
  induction k with
  | zero =>
    intro l x h; obtain rfl := List.eq_nil_of_length_eq_zero (Nat.le_zero.1 h)
    rw [peaks_nil, peaks_cons nd em (by simp)]
    have : big 1 = 1 := by decide
    simp [this, grow, peaks_nil, root_one]
  | succ k ih =>
    intro l x h
    by_cases h0 : l = []
    · subst h0
      rw [peaks_nil, peaks_cons nd em (by simp)]
      have : big 1 = 1 := by decide
      simp [this, grow, peaks_nil, root_one]
    · have h1 := pos_len h0
      have h2 := big_le h1
      have h3 := big_lt l.length
      have h4 := big_pos l.length
      have hl := peaks_len nd em l.length l (Nat.le_refl _)
      by_cases h5 : l.length + 1 = 2 * big l.length
      · -- one whole tree
        have hb : big (l ++ [x]).length = 2 * big l.length := by
          have := big_is (n := l.length + 1) (j := l.length.log2 + 1) (by rw [Nat.pow_succ]; show big l.length * 2 ≤ _; omega) (by rw [Nat.pow_succ]; show _ < 2 * (big l.length * 2); omega)
          rw [List.length_append]; show big (l.length + 1) = _; rw [this, Nat.pow_succ]; show big l.length * 2 = _; omega
        have hall := t1_all (l.length.log2 + 1)
        have e1 : 2 ^ (l.length.log2 + 1) - 1 = l.length := by rw [Nat.pow_succ]; show big l.length * 2 - 1 = _; omega
        rw [e1] at hall
        have hd : peaks nd em (l ++ [x]) = [root nd em (l ++ [x])] := by
          rw [peaks_cons nd em (by simp), hb, List.take_of_length_le (by simp; omega), List.drop_of_length_le (by simp; omega), peaks_nil]
        rw [hd]
        unfold grow
        rw [hl, hall.1, hall.2, Nat.sub_self, List.take_zero, List.drop_zero, List.nil_append]
        congr 1
        by_cases h6 : l.drop (big l.length) = []
        · have : big l.length = l.length := by have := congrArg List.length h6; simp at this; omega
          have h7 : l.length = 1 := by omega
          match l, h7 with
          | [y], _ =>
            rw [peaks_cons nd em (by simp)]
            have : big 1 = 1 := by decide
            have es : split 2 = 1 := by decide
            simp [this, peaks_nil, root_one]
            rw [root_two nd em (by simp)]
            simp [es, root_one]
        · have hr := ih (l.drop (big l.length)) x (by simp; omega)
          have hl2 : (l.drop (big l.length)).length = 2 ^ l.length.log2 - 1 := by simp; show _ = big l.length - 1; omega
          have ha2 := t1_all l.length.log2
          have hl3 := peaks_len nd em _ (l.drop (big l.length)) (Nat.le_refl _)
          have hr2 := peaks_root nd em _ (l.drop (big l.length) ++ [x]) (Nat.le_refl _)
          rw [hr] at hr2
          unfold grow at hr2
          rw [hl3, hl2, ha2.1, ha2.2, Nat.sub_self, List.take_zero, List.drop_zero, List.nil_append] at hr2
          have hr3 : (peaks nd em (l.drop (big l.length))).foldr nd x = root nd em (l.drop (big l.length) ++ [x]) := hr2
          rw [peaks_cons nd em h0, List.foldr_cons, hr3]
          have es : split (l ++ [x]).length = big l.length := by
            have := split_is (n := l.length + 1) (j := l.length.log2) (by show big l.length < _; omega) (by show _ ≤ 2 * big l.length; omega)
            rw [List.length_append]; exact this
          rw [root_two nd em (by simp; omega), es, List.take_append_of_le_length (by omega), List.drop_append_of_le_length (by omega)]
      · have hb : big (l ++ [x]).length = big l.length := by
          have := big_is (n := l.length + 1) (j := l.length.log2) (by show big l.length ≤ _; omega) (by show _ < 2 * big l.length; omega)
          rw [List.length_append]; exact this
        rw [peaks_cons nd em (l := l ++ [x]) (by simp), hb, List.take_append_of_le_length (by omega), List.drop_append_of_le_length (by omega), ih _ x (by simp; omega)]
        have ht := t1_add l.length.log2 (l.length - big l.length) (by show _ < big l.length; omega)
        rw [show 2 ^ l.length.log2 + (l.length - big l.length) = l.length by show big l.length + _ = _; omega] at ht
        have hl3 := peaks_len nd em _ (l.drop (big l.length)) (Nat.le_refl _)
        have ho := ones_add l.length.log2 (l.length - big l.length) (by show _ < big l.length; omega)
        rw [show 2 ^ l.length.log2 + (l.length - big l.length) = l.length by show big l.length + _ = _; omega] at ho
        have hle := t1_le _ (l.length - big l.length) (Nat.le_refl _)
        have hcons := peaks_cons nd em h0
        have e3 : (peaks nd em (l.drop (big l.length))).length = ones (l.length - big l.length) := by rw [hl3, List.length_drop]
        unfold grow
        rw [hcons, List.length_cons, ht, List.length_drop]
        generalize peaks nd em (l.drop (big l.length)) = Q at *
        rw [show Q.length + 1 - t1 (l.length - big l.length) = (Q.length - t1 (l.length - big l.length)) + 1 by omega, List.take_succ_cons, List.drop_succ_cons, List.cons_append]
end
end Go.Proofs.YtgggpnjnhhkmgaaDoor.Merk
namespace Go.Proofs.YtgggpnjnhhkmgaaDoor.Merk
set_option linter.unusedSimpArgs false
set_option linter.unusedVariables false
/-- The number of digits 1 of the bytes of a number. -/
def popB (x : Nat) : Nat := x % 2 + (x / 2 % 2 + (x / 4 % 2 + (x / 8 % 2 + (x / 16 % 2 + (x / 32 % 2 + (x / 64 % 2 + x / 128 % 2))))))
theorem land_cat (a b M m : Nat) (hb : b < 256) (hm : m < 256) : (256 * a + b) &&& (256 * M + m) = 256 * (a &&& M) + (b &&& m) := by
  have h1 : (256 * a + b) / 2 ^ 8 = a := by omega
  have h2 : (256 * M + m) / 2 ^ 8 = M := by omega
  have h3 : (256 * a + b) % 2 ^ 8 = b := by omega
  have h4 : (256 * M + m) % 2 ^ 8 = m := by omega
  have e1 := @Nat.and_div_two_pow (256 * a + b) (256 * M + m) 8
  have e2 := @Nat.and_mod_two_pow (256 * a + b) (256 * M + m) 8
  rw [h1, h2] at e1
  rw [h3, h4] at e2
  have := Nat.div_add_mod ((256 * a + b) &&& (256 * M + m)) (2 ^ 8)
  rw [e1, e2] at this
  omega
theorem pop_s1 : ∀ b : Fin 256, ∀ c : Fin 2, ((128 * c.val + b.val / 2) &&& 85) + (b.val &&& 85) < 256 ∧ (128 * c.val + b.val / 2) &&& 85 = (b.val / 2 &&& 85) := by decide +kernel
theorem pop_s1' : ∀ b : Fin 256, (b.val / 2 &&& 85) + (b.val &&& 85) < 256 := by decide +kernel
def p1 (b : Nat) : Nat := (b / 2 &&& 85) + (b &&& 85)
theorem pop_s2 : ∀ b : Fin 256, ∀ c : Fin 4, ((64 * c.val + b.val / 4) &&& 51) = (b.val / 4 &&& 51) ∧ (b.val / 4 &&& 51) + (b.val &&& 51) < 256 := by decide +kernel
def p2 (b : Nat) : Nat := (b / 4 &&& 51) + (b &&& 51)
def p3 (b : Nat) : Nat := (b / 16 + b) &&& 15
theorem pop_s3 : ∀ b : Fin 256, p3 (p2 (p1 b.val)) = popB b.val ∧ p1 b.val < 256 ∧ p2 (p1 b.val) < 256 ∧ p2 (p1 b.val) % 16 ≤ 4 ∧ p2 (p1 b.val) / 16 ≤ 4 ∧ p3 (p2 (p1 b.val)) ≤ 8 := by decide +kernel
/-- Bytes put together. -/
def cat : List Nat → Nat
  | [] => 0
  | b :: l => 256 * cat l + b
theorem cat_and (m : Nat) (hm : m < 256) : ∀ l : List Nat, (∀ b ∈ l, b < 256) → cat l &&& cat (l.map fun _ => m) = cat (l.map fun b => b &&& m)
  | [], _ => by simp [cat]
  | b :: l, h => by
    simp only [List.map_cons, cat]
    rw [land_cat _ _ _ _ (h b (by simp)) hm, cat_and m hm l (fun x hx => h x (by simp [hx]))]
theorem cat_add (f g : Nat → Nat) : ∀ l : List Nat, cat (l.map f) + cat (l.map g) = cat (l.map fun b => f b + g b)
  | [] => rfl
  | b :: l => by simp only [List.map_cons, cat]; have := cat_add f g l; omega
theorem cat_shr (k m : Nat) (hk : k ≤ 8) (hm : m < 256) (hc : ∀ b < 256, ∀ c < 2 ^ k, (2 ^ (8 - k) * c + b / 2 ^ k) &&& m = (b / 2 ^ k &&& m)) : ∀ l : List Nat, (∀ b ∈ l, b < 256) → (cat l / 2 ^ k) &&& cat (l.map fun _ => m) = cat (l.map fun b => b / 2 ^ k &&& m)
  | [], _ => by simp [cat]
  | b :: l, h => by
    simp only [List.map_cons, cat]
    have hb := h b (by simp)
    have hp : 2 ^ k * 2 ^ (8 - k) = 256 := by rw [← Nat.pow_add, show k + (8 - k) = 8 by omega]
    have hpos := Nat.pow_pos (n := k) (show 0 < 2 by omega)
    have hpos2 := Nat.pow_pos (n := 8 - k) (show 0 < 2 by omega)
    have e : (256 * cat l + b) / 2 ^ k = 256 * (cat l / 2 ^ k) + (2 ^ (8 - k) * (cat l % 2 ^ k) + b / 2 ^ k) := by
      have h1 := Nat.div_add_mod (cat l) (2 ^ k)
      have h2 : 256 * cat l + b = 2 ^ k * (256 * (cat l / 2 ^ k) + 2 ^ (8 - k) * (cat l % 2 ^ k)) + b := by
        conv => lhs; rw [← h1]
        rw [← hp]; grind
      rw [h2, Nat.mul_add_div hpos]; omega
    have hlt := Nat.mod_lt (cat l) hpos
    have hb2 : 2 ^ (8 - k) * (cat l % 2 ^ k) + b / 2 ^ k < 256 := by
      have h1 : 2 ^ (8 - k) * (cat l % 2 ^ k + 1) ≤ 2 ^ (8 - k) * 2 ^ k := Nat.mul_le_mul_left _ hlt
      have h3 : b / 2 ^ k < 2 ^ (8 - k) := by rw [Nat.div_lt_iff_lt_mul hpos, Nat.mul_comm, hp]; exact hb
      rw [Nat.mul_add, Nat.mul_one, Nat.mul_comm _ (2 ^ k), hp] at h1
      omega
    rw [e, land_cat _ _ _ _ hb2 hm, hc b hb _ hlt, cat_shr k m hk hm hc l (fun x hx => h x (by simp [hx]))]
def bytes8 (x : Nat) : List Nat := [x % 256, x / 256 % 256, x / 65536 % 256, x / 16777216 % 256, x / 4294967296 % 256, x / 1099511627776 % 256, x / 281474976710656 % 256, x / 72057594037927936 % 256]
theorem cat_bytes8 (x : Nat) (h : x < 18446744073709551616) : cat (bytes8 x) = x := by simp only [bytes8, cat]; omega
theorem bytes8_lt (x : Nat) : ∀ b ∈ bytes8 x, b < 256 := by simp [bytes8]; omega
theorem map_lt (f : Nat → Nat) {l : List Nat} (hf : ∀ b < 256, f b < 256) (h : ∀ b ∈ l, b < 256) : ∀ b ∈ l.map f, b < 256 := by
  intro b hb; obtain ⟨c, hc, rfl⟩ := List.mem_map.1 hb; exact hf c (h c hc)
theorem pop_a (l : List Nat) (h : ∀ b ∈ l, b < 256) : (cat l / 2 &&& cat (l.map fun _ => 85)) + (cat l &&& cat (l.map fun _ => 85)) = cat (l.map p1) := by
  have h1 := cat_shr 1 85 (by omega) (by omega) (fun b hb c hc => (pop_s1 ⟨b, hb⟩ ⟨c, hc⟩).2) l h
  rw [Nat.pow_one] at h1
  rw [h1, cat_and 85 (by omega) l h, cat_add]; rfl
theorem pop_b (l : List Nat) (h : ∀ b ∈ l, b < 256) : (cat l / 4 &&& cat (l.map fun _ => 51)) + (cat l &&& cat (l.map fun _ => 51)) = cat (l.map p2) := by
  have h1 := cat_shr 2 51 (by omega) (by omega) (fun b hb c hc => (pop_s2 ⟨b, hb⟩ ⟨c, hc⟩).1) l h
  rw [show 2 ^ 2 = 4 from rfl] at h1
  rw [h1, cat_and 51 (by omega) l h, cat_add]; rfl
theorem and15 (n : Nat) : n &&& 15 = n % 16 := Nat.and_two_pow_sub_one_eq_mod n 4
/-- The third step, where no half byte is above 4. -/
theorem pop_c : ∀ l : List Nat, (∀ b ∈ l, b % 16 ≤ 4 ∧ b / 16 ≤ 4) → (cat l / 16 + cat l) &&& cat (l.map fun _ => 15) = cat (l.map p3)
  | [], _ => by simp [cat]
  | b :: l, h => by
    obtain ⟨hb, hb2⟩ := h b (by simp)
    simp only [List.map_cons, cat]
    have hm : cat l % 16 ≤ 4 := by
      cases l with
      | nil => simp [cat]
      | cons c l => have := (h c (by simp)).1; simp only [cat]; omega
    have e : (256 * cat l + b) / 16 + (256 * cat l + b) = 256 * (cat l / 16 + cat l) + (16 * (cat l % 16) + b / 16 + b) := by omega
    rw [e, land_cat _ _ _ _ (by omega) (by omega), pop_c l (fun x hx => h x (by simp [hx]))]
    unfold p3
    rw [and15, and15]
    omega
theorem cat_d1 (a : Nat) (l : List Nat) (h : a < 256) : cat (a :: l) / 256 = cat l := by simp only [cat]; omega
theorem cat_d2 (a b : Nat) (l : List Nat) (h : a < 256) (h2 : b < 256) : cat (a :: b :: l) / 65536 = cat l := by
  rw [show 65536 = 256 * 256 from rfl, ← Nat.div_div_eq_div_mul, cat_d1 a _ h, cat_d1 b _ h2]
theorem cat_d4 (a b c d : Nat) (l : List Nat) (h : a < 256) (h2 : b < 256) (h3 : c < 256) (h4 : d < 256) : cat (a :: b :: c :: d :: l) / 4294967296 = cat l := by
  rw [show 4294967296 = 65536 * 65536 from rfl, ← Nat.div_div_eq_div_mul, cat_d2 a b _ h h2, cat_d2 c d _ h3 h4]
/-- The sum of eight bytes, as the last steps reckon it. -/
theorem pop_d (a b c d e f g h : Nat) (ha : a ≤ 8) (hb : b ≤ 8) (hc : c ≤ 8) (hd : d ≤ 8) (he : e ≤ 8) (hf : f ≤ 8) (hg : g ≤ 8) (hh : h ≤ 8) (x y z : Nat)
    (hx : x = cat [a, b, c, d, e, f, g, h] + cat [a, b, c, d, e, f, g, h] / 256) (hy : y = x + x / 65536) (hz : z = y + y / 4294967296) :
    z % 128 = a + b + c + d + e + f + g + h ∧ cat [a, b, c, d, e, f, g, h] < 1152921504606846976 ∧ x < 5000000000000000000 ∧ y < 5000000000000000000 ∧ z < 5000000000000000000 := by
  have e1 : x = cat [a + b, b + c, c + d, d + e, e + f, f + g, g + h, h] := by
    rw [hx, cat_d1 a _ (by omega)]; simp only [cat]; omega
  have e2 : y = cat [a + b + (c + d), b + c + (d + e), c + d + (e + f), d + e + (f + g), e + f + (g + h), f + g + h, g + h, h] := by
    rw [hy, e1, cat_d2 _ _ _ (by omega) (by omega)]; simp only [cat]; omega
  have e3 : z = cat [a + b + (c + d) + (e + f + (g + h)), b + c + (d + e) + (f + g + h), c + d + (e + f) + (g + h), d + e + (f + g) + h, e + f + (g + h), f + g + h, g + h, h] := by
    rw [hz, e2, cat_d4 _ _ _ _ _ (by omega) (by omega) (by omega) (by omega)]; simp only [cat]; omega
  clear hx hy hz
  refine ⟨?_, ?_, ?_, ?_, ?_⟩
  · rw [e3]
    have h1 : ∀ (p : Nat) (l : List Nat), p < 128 → cat (p :: l) % 128 = p := fun p l h => by simp only [cat]; omega
    rw [h1 _ _ (by omega)]; omega
  · simp only [cat]; omega
  · rw [e1]; simp only [cat]; omega
  · rw [e2]; simp only [cat]; omega
  · rw [e3]; simp only [cat]; omega
theorem pop_all (x x1 x2 x3 x4 x5 x6 : Nat) (h : x < 18446744073709551616) (h1 : x1 = (x / 2 &&& 6148914691236517205) + (x &&& 6148914691236517205)) (h2 : x2 = (x1 / 4 &&& 3689348814741910323) + (x1 &&& 3689348814741910323))
    (h3 : x3 = (x2 / 16 + x2) &&& 1085102592571150095) (h4 : x4 = x3 + x3 / 256) (h5 : x5 = x4 + x4 / 65536) (h6 : x6 = x5 + x5 / 4294967296) :
    x6 % 128 = ((bytes8 x).map popB).foldr (· + ·) 0 ∧ x1 < 18446744073709551616 ∧ x2 < 18446744073709551616 ∧ x2 / 16 + x2 < 18446744073709551616 ∧ x3 < 1152921504606846976 ∧ x4 < 5000000000000000000 ∧ x5 < 5000000000000000000 ∧ x6 < 5000000000000000000 := by
  have hb := bytes8_lt x
  have e1 := pop_a (bytes8 x) hb
  have k1 : cat ((bytes8 x).map fun _ => 85) = 6148914691236517205 := by simp [bytes8, cat]
  have k2 : cat (((bytes8 x).map p1).map fun _ => 51) = 3689348814741910323 := by simp [bytes8, cat]
  have k3 : cat ((((bytes8 x).map p1).map p2).map fun _ => 15) = 1085102592571150095 := by simp [bytes8, cat]
  rw [cat_bytes8 x h, k1] at e1
  have f1 : x1 = cat ((bytes8 x).map p1) := h1.trans e1
  have hb1 := map_lt p1 (fun b hb => (pop_s3 ⟨b, hb⟩).2.1) hb
  have e2 := pop_b _ hb1
  rw [← f1, k2] at e2
  have f2 : x2 = cat (((bytes8 x).map p1).map p2) := h2.trans e2
  have e3 := pop_c (((bytes8 x).map p1).map p2) (fun b hb0 => by
    obtain ⟨c, hc, rfl⟩ := List.mem_map.1 hb0
    obtain ⟨d, hd, rfl⟩ := List.mem_map.1 hc
    exact ⟨(pop_s3 ⟨d, hb d hd⟩).2.2.2.1, (pop_s3 ⟨d, hb d hd⟩).2.2.2.2.1⟩)
  rw [← f2, k3] at e3
  have f3 : x3 = cat ((((bytes8 x).map p1).map p2).map p3) := h3.trans e3
  have hmm : (((bytes8 x).map p1).map p2).map p3 = (bytes8 x).map popB := by
    rw [List.map_map, List.map_map]
    refine List.map_congr_left fun d hd => (pop_s3 ⟨d, hb d hd⟩).1
  rw [hmm] at f3
  have h8 : ∀ d ∈ bytes8 x, popB d ≤ 8 := fun d hd => by rw [← (pop_s3 ⟨d, hb d hd⟩).1]; exact (pop_s3 ⟨d, hb d hd⟩).2.2.2.2.2
  simp only [bytes8, List.map_cons, List.map_nil, List.mem_cons, List.not_mem_nil, or_false, forall_eq_or_imp, forall_eq] at h8 f3 ⊢
  obtain ⟨g0, g1, g2, g3, g4, g5, g6, g7⟩ := h8
  have fin := pop_d _ _ _ _ _ _ _ _ g0 g1 g2 g3 g4 g5 g6 g7 x4 x5 x6 (by rw [h4, f3]) h5 h6
  have l1 : x1 < 18446744073709551616 := by
    rw [h1]; have := Nat.and_le_right (n := x / 2) (m := 6148914691236517205); have := Nat.and_le_right (n := x) (m := 6148914691236517205); omega
  have l2 : x2 < 9223372036854775808 := by
    rw [h2]; have := Nat.and_le_right (n := x1 / 4) (m := 3689348814741910323); have := Nat.and_le_right (n := x1) (m := 3689348814741910323); omega
  refine ⟨?_, l1, by omega, by omega, by rw [f3]; exact fin.2.1, fin.2.2.1, fin.2.2.2.1, fin.2.2.2.2⟩
  rw [fin.1]
  simp only [List.foldr_cons, List.foldr_nil]
  omega
theorem ones_two (q r : Nat) (h : r < 2) : ones (2 * q + r) = ones q + r := by
  rw [ones]
  by_cases h0 : 2 * q + r = 0
  · obtain rfl : q = 0 := by omega
    obtain rfl : r = 0 := by omega
    rw [if_pos rfl, ones, if_pos rfl]
  · rw [if_neg h0, show (2 * q + r) / 2 = q by omega]; omega
theorem ones_pow (k : Nat) : ∀ q r, r < 2 ^ k → ones (2 ^ k * q + r) = ones q + ones r := by
  induction k with
  | zero => intro q r h; obtain rfl : r = 0 := by simp at h; exact h
            have e0 : ones 0 = 0 := by rw [ones, if_pos rfl]
            rw [e0, Nat.pow_zero, Nat.one_mul]; rfl
  | succ k ih =>
    intro q r h
    rw [Nat.pow_succ] at h
    rw [Nat.pow_succ, show 2 ^ k * 2 * q + r = 2 * (2 ^ k * q + r / 2) + r % 2 by rw [Nat.mul_right_comm]; omega, ones_two _ _ (by omega), ih _ _ (by omega)]
    have := ones_two (r / 2) (r % 2) (by omega)
    rw [show 2 * (r / 2) + r % 2 = r by omega] at this
    omega
theorem ones_next (n : Nat) : ones n = n % 2 + ones (n / 2) := by
  have := ones_two (n / 2) (n % 2) (by omega)
  rw [show 2 * (n / 2) + n % 2 = n by omega] at this
  omega
theorem ones_byte (n : Nat) (h : n < 256) : ones n = popB n := by
  have e0 : ones 0 = 0 := by rw [ones, if_pos rfl]
  rw [ones_next n, ones_next (n / 2), Nat.div_div_eq_div_mul, ones_next (n / (2 * 2)), Nat.div_div_eq_div_mul, ones_next (n / (2 * 2 * 2)), Nat.div_div_eq_div_mul, ones_next (n / (2 * 2 * 2 * 2)), Nat.div_div_eq_div_mul,
    ones_next (n / (2 * 2 * 2 * 2 * 2)), Nat.div_div_eq_div_mul, ones_next (n / (2 * 2 * 2 * 2 * 2 * 2)), Nat.div_div_eq_div_mul, ones_next (n / (2 * 2 * 2 * 2 * 2 * 2 * 2)), Nat.div_div_eq_div_mul,
    Nat.div_eq_of_lt (a := n) (b := 2 * 2 * 2 * 2 * 2 * 2 * 2 * 2) (by omega), e0]
  rfl
theorem ones_sum (x : Nat) (h : x < 18446744073709551616) : ((bytes8 x).map popB).foldr (· + ·) 0 = ones x := by
  have hs : ∀ y, ones y = popB (y % 256) + ones (y / 256) := fun y => by
    have := ones_pow 8 (y / 256) (y % 256) (by omega)
    rw [show 2 ^ 8 * (y / 256) + y % 256 = y by omega, ones_byte (y % 256) (by omega)] at this
    rw [this, Nat.add_comm]
  have e9 : ones 0 = 0 := by rw [ones, if_pos rfl]
  simp only [bytes8, List.map_cons, List.map_nil, List.foldr_cons, List.foldr_nil]
  rw [hs x, hs (x / 256), Nat.div_div_eq_div_mul, hs (x / (256 * 256)), Nat.div_div_eq_div_mul, hs (x / (256 * 256 * 256)), Nat.div_div_eq_div_mul, hs (x / (256 * 256 * 256 * 256)), Nat.div_div_eq_div_mul,
    hs (x / (256 * 256 * 256 * 256 * 256)), Nat.div_div_eq_div_mul, hs (x / (256 * 256 * 256 * 256 * 256 * 256)), Nat.div_div_eq_div_mul, hs (x / (256 * 256 * 256 * 256 * 256 * 256 * 256)), Nat.div_div_eq_div_mul,
    Nat.div_eq_of_lt (a := x) (b := 256 * 256 * 256 * 256 * 256 * 256 * 256 * 256) (by omega), e9]
end Go.Proofs.YtgggpnjnhhkmgaaDoor.Merk
