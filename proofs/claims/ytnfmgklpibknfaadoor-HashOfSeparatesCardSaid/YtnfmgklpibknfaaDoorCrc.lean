/-
  The algebra of the check of 40 bits: the step of the register is a linear map M; the table's step, the check of a message, and the joining of two checks are said by powers of M. No program here.
-/
namespace Go.Proofs.YtnfmgklpibknfaaDoor
set_option linter.unusedSimpArgs false
set_option linter.unusedVariables false
namespace Crc

def poly : BitVec 40 := 75628553#40
def M (r : BitVec 40) : BitVec 40 := (r <<< 1) ^^^ (if r.msb then poly else 0#40)
def Mi : Nat → BitVec 40 → BitVec 40
  | 0, x => x
  | n + 1, x => M (Mi n x)

theorem M_xor (x y : BitVec 40) : M (x ^^^ y) = M x ^^^ M y := by
  unfold M
  rw [BitVec.shiftLeft_xor_distrib, BitVec.msb_xor]
  generalize x <<< 1 = u
  generalize y <<< 1 = v
  cases x.msb <;> cases y.msb
  · simp
  · simp [BitVec.xor_assoc]
  · simp
    rw [BitVec.xor_assoc, BitVec.xor_assoc, BitVec.xor_comm v poly]
  · simp
    rw [BitVec.xor_assoc, ← BitVec.xor_assoc poly v poly, BitVec.xor_comm poly v, BitVec.xor_assoc v poly poly]
    simp
theorem M_zero : M 0#40 = 0#40 := by decide
theorem Mi_xor (n : Nat) (x y : BitVec 40) : Mi n (x ^^^ y) = Mi n x ^^^ Mi n y := by
  induction n with
  | zero => rfl
  | succ n ih => simp only [Mi, ih, M_xor]
theorem Mi_zero (n : Nat) : Mi n 0#40 = 0#40 := by
  induction n with
  | zero => rfl
  | succ n ih => simp only [Mi, ih, M_zero]
theorem Mi_add (m n : Nat) (x : BitVec 40) : Mi (m + n) x = Mi m (Mi n x) := by
  induction m with
  | zero => simp [Mi]
  | succ m ih => rw [Nat.succ_add]; simp only [Mi, ih]
theorem Mi_M (n : Nat) (x : BitVec 40) : Mi n (M x) = M (Mi n x) := by
  have := Mi_add n 1 x
  simp only [Mi] at this
  rw [← this]
theorem Mi_comm (m n : Nat) (x : BitVec 40) : Mi m (Mi n x) = Mi n (Mi m x) := by
  rw [← Mi_add, ← Mi_add, Nat.add_comm]

theorem M_inj_zero (x : BitVec 40) (h : M x = 0#40) : x = 0#40 := by
  unfold M at h
  have hm : x.msb = false := by
    cases hx : x.msb
    · rfl
    · rw [hx] at h
      have h0 := congrArg (fun v : BitVec 40 => v.getLsbD 0) h
      simp [poly] at h0
  rw [hm] at h
  simp at h
  apply BitVec.eq_of_getLsbD_eq
  intro i hi
  have h1 := congrArg (fun v : BitVec 40 => v.getLsbD (i + 1)) h
  by_cases hi9 : i = 39
  · subst hi9
    rw [BitVec.msb_eq_getLsbD_last] at hm
    simpa using hm
  · simp at h1
    simp
    exact h1 (by omega)
theorem Mi_inj_zero (n : Nat) (x : BitVec 40) (h : Mi n x = 0#40) : x = 0#40 := by
  induction n with
  | zero => exact h
  | succ n ih => exact ih (M_inj_zero _ h)

/-- A sum of the lowest k bits. -/
def S (a : BitVec 40) : Nat → BitVec 40
  | 0 => 0#40
  | k + 1 => S a k ^^^ (if a.getLsbD k then 1#40 <<< k else 0#40)
theorem S_bit (a : BitVec 40) (k i : Nat) (hi : i < 40) : (S a k).getLsbD i = (decide (i < k) && a.getLsbD i) := by
  induction k with
  | zero => simp [S]
  | succ k ih =>
    simp only [S, BitVec.getLsbD_xor, ih]
    cases ha : a.getLsbD k
    · simp
      by_cases hik : i = k
      · subst hik; simp [ha]
      · have : (i < k + 1) ↔ i < k := by omega
        simp [this]
    · simp [hi]
      by_cases hik : i = k
      · subst hik; simp [ha]
      · by_cases hlt : i < k
        · have h1 : i < k + 1 := by omega
          simp [hlt, h1]
        · have h1 : ¬ i < k + 1 := by omega
          have h2 : ¬ (i - k = 0) := by omega
          simp [hlt, h1, h2]
theorem S_all (a : BitVec 40) : S a 40 = a := by
  apply BitVec.eq_of_getLsbD_eq
  intro i hi
  rw [S_bit a 40 i hi]; simp [hi]
theorem lin_ext (f g : BitVec 40 → BitVec 40) (hf : ∀ x y, f (x ^^^ y) = f x ^^^ f y) (hg : ∀ x y, g (x ^^^ y) = g x ^^^ g y)
    (h : ∀ j, j < 40 → f (1#40 <<< j) = g (1#40 <<< j)) (a : BitVec 40) : f a = g a := by
  have f0 : f 0#40 = 0#40 := by have := hf 0#40 0#40; simpa using this
  have g0 : g 0#40 = 0#40 := by have := hg 0#40 0#40; simpa using this
  have key : ∀ k, k ≤ 40 → f (S a k) = g (S a k) := by
    intro k
    induction k with
    | zero => intro _; simp [S, f0, g0]
    | succ k ih =>
      intro hk
      simp only [S, hf, hg, ih (by omega)]
      cases a.getLsbD k
      · simp [f0, g0]
      · simp [h k (by omega)]
  have := key 40 (Nat.le_refl _)
  rwa [S_all] at this

/-- The product, as the program makes it: from the highest bit of b down. -/
def T (a b : BitVec 40) : Nat → BitVec 40
  | 0 => 0#40
  | k + 1 => M (T a b k) ^^^ (if b.getLsbD (39 - k) then a else 0#40)
theorem T_xor (a a' b : BitVec 40) (k : Nat) : T (a ^^^ a') b k = T a b k ^^^ T a' b k := by
  induction k with
  | zero => simp [T]
  | succ k ih =>
    simp only [T, ih, M_xor]
    cases b.getLsbD (39 - k)
    · simp
    · simp only [if_true]
      rw [BitVec.xor_assoc, BitVec.xor_assoc]; congr 1
      rw [← BitVec.xor_assoc, ← BitVec.xor_assoc, BitVec.xor_comm (M (T a' b k)) a]
theorem T_M (a b : BitVec 40) (k : Nat) : T (M a) b k = M (T a b k) := by
  induction k with
  | zero => simp [T, M_zero]
  | succ k ih =>
    simp only [T, ih, M_xor]
    cases b.getLsbD (39 - k) <;> simp [M_zero]
theorem T_Mi (n : Nat) (a b : BitVec 40) (k : Nat) : T (Mi n a) b k = Mi n (T a b k) := by
  induction n with
  | zero => rfl
  | succ n ih => simp only [Mi, T_M, ih]
theorem M_shift (x : BitVec 40) (h : x.msb = false) : M x = x <<< 1 := by unfold M; simp [h]
theorem T_one (b : BitVec 40) (k : Nat) (hk : k ≤ 40) : T 1#40 b k = b >>> (40 - k) := by
  induction k with
  | zero =>
    apply BitVec.eq_of_getLsbD_eq
    intro i hi
    simp [T]
  | succ k ih =>
    rw [T, ih (by omega), M_shift]
    · apply BitVec.eq_of_getLsbD_eq
      intro i hi
      by_cases h0 : i = 0
      · subst h0
        have e : 40 - (k + 1) + 0 = 39 - k := by omega
        have e' : 40 - (k + 1) = 39 - k := by omega
        cases hb : b.getLsbD (39 - k) <;> simp [e', hb]
      · have e : 40 - k + (i - 1) = 40 - (k + 1) + i := by omega
        have e2 : (1#40).getLsbD i = false := by
          rw [BitVec.getLsbD_one]; simp [h0]
        cases hb : b.getLsbD (39 - k)
        · simp [hi, e]; intro h; omega
        · simp [hi, e, h0]
    · rw [BitVec.msb_eq_getLsbD_last]
      simp
      apply BitVec.getLsbD_of_ge
      omega
theorem T_one_all (b : BitVec 40) : T 1#40 b 40 = b := by
  rw [T_one b 40 (Nat.le_refl _)]; simp
theorem Mi_one (j : Nat) (hj : j < 40) : Mi j 1#40 = 1#40 <<< j := by
  induction j with
  | zero => rfl
  | succ j ih =>
    rw [Mi, ih (by omega), M_shift]
    · rw [← BitVec.shiftLeft_add]
    · rw [BitVec.msb_eq_getLsbD_last]
      simp
      omega
/-- The product with the power x^m is M applied m times. -/
theorem T_pow (a : BitVec 40) (m : Nat) : T a (Mi m 1#40) 40 = Mi m a := by
  refine lin_ext (fun a => T a (Mi m 1#40) 40) (Mi m) (fun x y => T_xor x y _ _) (fun x y => Mi_xor m x y) ?_ a
  intro j hj
  show T (1#40 <<< j) (Mi m 1#40) 40 = Mi m (1#40 <<< j)
  rw [← Mi_one j hj, T_Mi, T_one_all, Mi_comm]

/-- The table of the program. -/
def tab : List Nat := [0, 75628553, 151257106, 226885659, 302514212, 378142765, 453771318, 529399871, 605028424, 546439233, 756285530, 697696339, 907542636, 848953445, 1058799742, 1000210551]
def nib (r : BitVec 40) (n : Nat) : BitVec 40 := (r <<< 4) ^^^ BitVec.ofNat 40 (tab.getD (((r >>> 36).toNat ^^^ n) % 16) 0)

theorem M4_low (x : BitVec 40) (h : ∀ i, 36 ≤ i → x.getLsbD i = false) : Mi 4 x = x <<< 4 := by
  have s1 : M x = x <<< 1 := M_shift _ (by rw [BitVec.msb_eq_getLsbD_last]; exact h _ (by omega))
  have s2 : M (x <<< 1) = x <<< 2 := by
    rw [M_shift _ (by rw [BitVec.msb_eq_getLsbD_last]; simpa using h 38 (by omega)), ← BitVec.shiftLeft_add]
  have s3 : M (x <<< 2) = x <<< 3 := by
    rw [M_shift _ (by rw [BitVec.msb_eq_getLsbD_last]; simpa using h 37 (by omega)), ← BitVec.shiftLeft_add]
  have s4 : M (x <<< 3) = x <<< 4 := by
    rw [M_shift _ (by rw [BitVec.msb_eq_getLsbD_last]; simpa using h 36 (by omega)), ← BitVec.shiftLeft_add]
  simp only [Mi, s1, s2, s3, s4]
theorem tab_ok : ∀ h : Fin 16, Mi 4 (BitVec.ofNat 40 h.val <<< 36) = BitVec.ofNat 40 (tab.getD h.val 0) := by decide +kernel
theorem split36 (x : BitVec 40) : x = (BitVec.ofNat 40 (x >>> 36).toNat <<< 36) ^^^ ((x <<< 4) >>> 4) := by
  have e : BitVec.ofNat 40 (x >>> 36).toNat = x >>> 36 := by apply BitVec.eq_of_toNat_eq; rw [BitVec.toNat_ofNat]; exact Nat.mod_eq_of_lt (x >>> 36).isLt
  rw [e]
  apply BitVec.eq_of_getLsbD_eq
  intro i hi
  simp only [BitVec.getLsbD_xor, BitVec.getLsbD_shiftLeft, BitVec.getLsbD_ushiftRight]
  by_cases h : i < 36
  · simp [h, show 4 + i < 40 by omega]
  · simp [h, hi, show ¬ (4 + i < 40) by omega, show 36 + (i - 36) = i by omega]
theorem shr36_lt (x : BitVec 40) : (x >>> 36).toNat < 16 := by
  rw [BitVec.toNat_ushiftRight, Nat.shiftRight_eq_div_pow]
  have := x.isLt
  omega
theorem M4 (x : BitVec 40) : Mi 4 x = (x <<< 4) ^^^ BitVec.ofNat 40 (tab.getD (x >>> 36).toNat 0) := by
  have hsp := split36 x
  have h1 : Mi 4 x = Mi 4 (BitVec.ofNat 40 (x >>> 36).toNat <<< 36) ^^^ Mi 4 ((x <<< 4) >>> 4) := by
    conv => lhs; rw [hsp]
    rw [Mi_xor]
  rw [h1, tab_ok ⟨_, shr36_lt x⟩, M4_low, BitVec.xor_comm]
  · congr 1
    apply BitVec.eq_of_getLsbD_eq
    intro i hi
    simp
    by_cases h : i < 4
    · simp [h]
    · simp [h, hi, show 4 + (i - 4) = i by omega]
  · intro i hi
    simp
    intro h
    omega
theorem nib_eq (r : BitVec 40) (n : Nat) : nib r n = Mi 4 (r ^^^ (BitVec.ofNat 40 n <<< 36)) := by
  rw [M4, nib, BitVec.shiftLeft_xor_distrib]
  have e0 : BitVec.ofNat 40 n <<< 36 <<< 4 = 0#40 := by
    rw [← BitVec.shiftLeft_add]
    apply BitVec.eq_of_getLsbD_eq
    intro i hi
    simp [hi]
  rw [e0]
  simp only [BitVec.xor_zero]
  congr 3
  rw [BitVec.ushiftRight_xor_distrib, BitVec.toNat_xor]
  have h1 := shr36_lt r
  have e2 : (BitVec.ofNat 40 n <<< 36 >>> 36).toNat = n % 16 := by
    rw [BitVec.toNat_ushiftRight, BitVec.toNat_shiftLeft, BitVec.toNat_ofNat, Nat.shiftRight_eq_div_pow, Nat.shiftLeft_eq]
    omega
  rw [e2]
  have e3 : (r >>> 36).toNat = (r >>> 36).toNat % 16 := by omega
  rw [e3]
  have : ∀ a b : Nat, (a % 16 ^^^ b) % 16 = a % 16 ^^^ b % 16 := by
    intro a b
    have := Nat.xor_mod_two_pow (a := a % 16) (b := b) (n := 4)
    simp at this
    exact this
  exact this _ _

/-! The message, byte by byte. -/
def byteStep (r : BitVec 40) (b : UInt8) : BitVec 40 := nib (nib r (b.toNat / 16)) b.toNat
theorem byte_ok : ∀ b : Fin 256, Mi 4 (BitVec.ofNat 40 b.val <<< 32) = Mi 4 (BitVec.ofNat 40 (b.val / 16) <<< 36) ^^^ (BitVec.ofNat 40 b.val <<< 36) := by decide +kernel
theorem byteStep_eq (r : BitVec 40) (b : UInt8) : byteStep r b = Mi 8 (r ^^^ (BitVec.ofNat 40 b.toNat <<< 32)) := by
  have hb := byte_ok ⟨b.toNat, b.toNat_lt⟩
  simp only at hb
  rw [byteStep, nib_eq, nib_eq, show (8 : Nat) = 4 + 4 from rfl, Mi_add, Mi_xor 4 r (BitVec.ofNat 40 b.toNat <<< 32), hb, Mi_xor 4 r, BitVec.xor_assoc]
def crcR (r : BitVec 40) (l : List UInt8) : BitVec 40 := l.foldl byteStep r
def ones : BitVec 40 := 1099511627775#40
def check (l : List UInt8) : BitVec 40 := crcR ones l ^^^ ones
theorem crcR_append (r : BitVec 40) (a b : List UInt8) : crcR r (a ++ b) = crcR (crcR r a) b := by simp [crcR]
theorem crcR_cons (r : BitVec 40) (x : UInt8) (l : List UInt8) : crcR r (x :: l) = crcR (byteStep r x) l := rfl
theorem crcR_nil (r : BitVec 40) : crcR r [] = r := rfl
theorem crcR_snoc (r : BitVec 40) (l : List UInt8) (x : UInt8) : crcR r (l ++ [x]) = byteStep (crcR r l) x := by simp [crcR]
theorem crcR_xor (l : List UInt8) : ∀ r s : BitVec 40, crcR (r ^^^ s) l = Mi (8 * l.length) r ^^^ crcR s l := by
  induction l with
  | nil => intro r s; simp [crcR, Mi]
  | cons x l ih =>
    intro r s
    have e : byteStep (r ^^^ s) x = Mi 8 r ^^^ byteStep s x := by
      rw [byteStep_eq, byteStep_eq, BitVec.xor_assoc, Mi_xor]
    rw [crcR_cons, e, ih, crcR_cons, ← Mi_add]
    rfl
theorem crcR_from (r : BitVec 40) (l : List UInt8) : crcR r l = Mi (8 * l.length) r ^^^ crcR 0#40 l := by
  have := crcR_xor l r 0#40
  simpa using this

/-! The reference's way: bit by bit. -/
def stp (r : BitVec 40) (c : Bool) : BitVec 40 := M (r ^^^ (if c then 1#40 <<< 39 else 0#40))
def refSteps (r : BitVec 40) (b : Nat) : Nat → BitVec 40
  | 0 => r
  | k + 1 => stp (refSteps r b k) (b.testBit (7 - k))
theorem refSteps_lin (r : BitVec 40) (b k : Nat) : refSteps r b k = Mi k r ^^^ refSteps 0#40 b k := by
  induction k with
  | zero => simp [refSteps, Mi]
  | succ k ih => rw [refSteps, ih, stp, BitVec.xor_assoc, M_xor]; rfl
theorem ref_ok : ∀ b : Fin 256, refSteps 0#40 b.val 8 = Mi 8 (BitVec.ofNat 40 b.val <<< 32) := by decide +kernel
theorem refSteps_eq (r : BitVec 40) (b : UInt8) : refSteps r b.toNat 8 = byteStep r b := by
  rw [refSteps_lin, byteStep_eq, Mi_xor]
  have := ref_ok ⟨b.toNat, b.toNat_lt⟩
  simp only at this
  rw [this]
/-- n zero bits. -/
def zeroSteps (r : BitVec 40) : Nat → BitVec 40
  | 0 => r
  | k + 1 => stp (zeroSteps r k) false
theorem zeroSteps_eq (r : BitVec 40) (k : Nat) : zeroSteps r k = Mi k r := by
  induction k with
  | zero => rfl
  | succ k ih => rw [zeroSteps, ih]; simp [stp, Mi]
/-- the checks of two messages, joined. -/
def join (a b : BitVec 40) (n : Nat) : BitVec 40 := Mi (8 * n) a ^^^ b
theorem check_append (a b : List UInt8) : check (a ++ b) = join (check a) (check b) b.length := by
  unfold check join
  rw [crcR_append, crcR_from (crcR ones a) b, crcR_from ones b, Mi_xor]
  generalize Mi (8 * b.length) (crcR ones a) = x
  generalize Mi (8 * b.length) ones = y
  generalize crcR 0#40 b = z
  apply BitVec.eq_of_getLsbD_eq
  intro i hi
  simp only [BitVec.getLsbD_xor]
  generalize x.getLsbD i = x
  generalize y.getLsbD i = y
  generalize z.getLsbD i = z
  generalize ones.getLsbD i = o
  revert x y z o
  decide
theorem join_assoc (x y z : BitVec 40) (n m : Nat) : join (join x y n) z m = join x (join y z m) (n + m) := by
  unfold join
  rw [Mi_xor, ← Mi_add, show 8 * m + 8 * n = 8 * (n + m) by omega, BitVec.xor_assoc]
end Crc
end Go.Proofs.YtnfmgklpibknfaaDoor
