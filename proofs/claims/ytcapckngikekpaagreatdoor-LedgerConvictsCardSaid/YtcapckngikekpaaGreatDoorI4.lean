/-
  Known of the functions of this seat's laws, joined. Conditions: each theorem's own.
-/
import Derived.Test.YtcapckngikekpaaGreatDoorI3
import Derived.Test.YtcapckngikekpaaGreatDoorI0Nl
import Derived.Lib.TrailingZeros
import Derived.Laws.Bits128
import Derived.Defers
namespace Go.Proofs.YtcapckngikekpaaGreatDoor
set_option linter.unusedSimpArgs false
set_option linter.unusedVariables false
set_option maxRecDepth 100000
set_option maxHeartbeats 16000000
namespace Merk
def z8r (x : Nat) : Nat := x % 2 + (x / 2 % 2 + (x / 4 % 2 + (x / 8 % 2 + (x / 16 % 2 + (x / 32 % 2 + (x / 64 % 2 + x / 128 % 2))))))
theorem zew (a b M m : Nat) (hb : b < 256) (hm : m < 256) : (256 * a + b) &&& (256 * M + m) = 256 * (a &&& M) + (b &&& m) := by
  have h1 : (256 * a + b) / 2 ^ 8 = a := by omega
  have h2 : (256 * M + m) / 2 ^ 8 = M := by omega
  have h3 : (256 * a + b) % 2 ^ 8 = b := by omega
  have h4 : (256 * M + m) % 2 ^ 8 = m := by omega
  have e1 := @Nat.and_div_two_pow (256 * a + b) (256 * M + m) 8
  have e2 := @Nat.and_mod_two_pow (256 * a + b) (256 * M + m) 8
  rw [h1, h2] at e1
  rw [h3, h4] at e2
  have := Nat.div_add_mod ((256 * a + b) &&& (256 * M + m)) (2 ^ 8)
  rw [e1, e2] at this
  omega
theorem zt0 : ∀ b : Fin 256, ∀ c : Fin 2, ((128 * c.val + b.val / 2) &&& 85) + (b.val &&& 85) < 256 ∧ (128 * c.val + b.val / 2) &&& 85 = (b.val / 2 &&& 85) := by decide +kernel
def p1 (b : Nat) : Nat := (b / 2 &&& 85) + (b &&& 85)
theorem zt1 : ∀ b : Fin 256, ∀ c : Fin 4, ((64 * c.val + b.val / 4) &&& 51) = (b.val / 4 &&& 51) ∧ (b.val / 4 &&& 51) + (b.val &&& 51) < 256 := by decide +kernel
def p2 (b : Nat) : Nat := (b / 4 &&& 51) + (b &&& 51)
def p3 (b : Nat) : Nat := (b / 16 + b) &&& 15
theorem z9o : ∀ b : Fin 256, p3 (p2 (p1 b.val)) = z8r b.val ∧ p1 b.val < 256 ∧ p2 (p1 b.val) < 256 ∧ p2 (p1 b.val) % 16 ≤ 4 ∧ p2 (p1 b.val) / 16 ≤ 4 ∧ p3 (p2 (p1 b.val)) ≤ 8 := by decide +kernel
def cat : List Nat → Nat
  | [] => 0
  | b :: l => 256 * cat l + b
theorem ze0 (m : Nat) (hm : m < 256) : ∀ l : List Nat, (∀ b ∈ l, b < 256) → cat l &&& cat (l.map fun _ => m) = cat (l.map fun b => b &&& m)
  | [], _ => by simp [cat]
  | b :: l, h => by
    simp only [List.map_cons, cat]
    rw [zew _ _ _ _ (h b (by simp)) hm, ze0 m hm l (fun x hx => h x (by simp [hx]))]
theorem zdz (f g : Nat → Nat) : ∀ l : List Nat, cat (l.map f) + cat (l.map g) = cat (l.map fun b => f b + g b)
  | [] => rfl
  | b :: l => by simp only [List.map_cons, cat]; have := zdz f g l; omega
theorem ze3 (k m : Nat) (hk : k ≤ 8) (hm : m < 256) (hc : ∀ b < 256, ∀ c < 2 ^ k, (2 ^ (8 - k) * c + b / 2 ^ k) &&& m = (b / 2 ^ k &&& m)) : ∀ l : List Nat, (∀ b ∈ l, b < 256) → (cat l / 2 ^ k) &&& cat (l.map fun _ => m) = cat (l.map fun b => b / 2 ^ k &&& m)
  | [], _ => by simp [cat]
  | b :: l, h => by
    simp only [List.map_cons, cat]
    have hb := h b (by simp)
    have hp : 2 ^ k * 2 ^ (8 - k) = 256 := by rw [← Nat.pow_add, show k + (8 - k) = 8 by omega]
    have hpos := Nat.pow_pos (n := k) (show 0 < 2 by omega)
    have hpos2 := Nat.pow_pos (n := 8 - k) (show 0 < 2 by omega)
    have e : (256 * cat l + b) / 2 ^ k = 256 * (cat l / 2 ^ k) + (2 ^ (8 - k) * (cat l % 2 ^ k) + b / 2 ^ k) := by
      have h1 := Nat.div_add_mod (cat l) (2 ^ k)
      have h2 : 256 * cat l + b = 2 ^ k * (256 * (cat l / 2 ^ k) + 2 ^ (8 - k) * (cat l % 2 ^ k)) + b := by
        conv => lhs; rw [← h1]
        rw [← hp]; grind
      rw [h2, Nat.mul_add_div hpos]; omega
    have hlt := Nat.mod_lt (cat l) hpos
    have hb2 : 2 ^ (8 - k) * (cat l % 2 ^ k) + b / 2 ^ k < 256 := by
      have h1 : 2 ^ (8 - k) * (cat l % 2 ^ k + 1) ≤ 2 ^ (8 - k) * 2 ^ k := Nat.mul_le_mul_left _ hlt
      have h3 : b / 2 ^ k < 2 ^ (8 - k) := by rw [Nat.div_lt_iff_lt_mul hpos, Nat.mul_comm, hp]; exact hb
      rw [Nat.mul_add, Nat.mul_one, Nat.mul_comm _ (2 ^ k), hp] at h1
      omega
    rw [e, zew _ _ _ _ hb2 hm, hc b hb _ hlt, ze3 k m hk hm hc l (fun x hx => h x (by simp [hx]))]
def z2v (x : Nat) : List Nat := [x % 256, x / 256 % 256, x / 65536 % 256, x / 16777216 % 256, x / 4294967296 % 256, x / 1099511627776 % 256, x / 281474976710656 % 256, x / 72057594037927936 % 256]
theorem zny (x : Nat) (h : x < 18446744073709551616) : cat (z2v x) = x := by simp only [z2v, cat]; omega
theorem znu (x : Nat) : ∀ b ∈ z2v x, b < 256 := by simp [z2v]; omega
theorem zro (f : Nat → Nat) {l : List Nat} (hf : ∀ b < 256, f b < 256) (h : ∀ b ∈ l, b < 256) : ∀ b ∈ l.map f, b < 256 := by
  intro b hb; obtain ⟨c, hc, rfl⟩ := List.mem_map.1 hb; exact hf c (h c hc)
theorem pop_a (l : List Nat) (h : ∀ b ∈ l, b < 256) : (cat l / 2 &&& cat (l.map fun _ => 85)) + (cat l &&& cat (l.map fun _ => 85)) = cat (l.map p1) := by
  have h1 := ze3 1 85 (by omega) (by omega) (fun b hb c hc => (zt0 ⟨b, hb⟩ ⟨c, hc⟩).2) l h
  rw [Nat.pow_one] at h1
  rw [h1, ze0 85 (by omega) l h, zdz]; rfl
theorem pop_b (l : List Nat) (h : ∀ b ∈ l, b < 256) : (cat l / 4 &&& cat (l.map fun _ => 51)) + (cat l &&& cat (l.map fun _ => 51)) = cat (l.map p2) := by
  have h1 := ze3 2 51 (by omega) (by omega) (fun b hb c hc => (zt1 ⟨b, hb⟩ ⟨c, hc⟩).1) l h
  rw [show 2 ^ 2 = 4 from rfl] at h1
  rw [h1, ze0 51 (by omega) l h, zdz]; rfl
theorem zgt (n : Nat) : n &&& 15 = n % 16 := Nat.and_two_pow_sub_one_eq_mod n 4
theorem zke : ∀ l : List Nat, (∀ b ∈ l, b % 16 ≤ 4 ∧ b / 16 ≤ 4) → (cat l / 16 + cat l) &&& cat (l.map fun _ => 15) = cat (l.map p3)
  | [], _ => by simp [cat]
  | b :: l, h => by
    obtain ⟨hb, hb2⟩ := h b (by simp)
    simp only [List.map_cons, cat]
    have hm : cat l % 16 ≤ 4 := by
      cases l with
      | nil => simp [cat]
      | cons c l => have := (h c (by simp)).1; simp only [cat]; omega
    have e : (256 * cat l + b) / 16 + (256 * cat l + b) = 256 * (cat l / 16 + cat l) + (16 * (cat l % 16) + b / 16 + b) := by omega
    rw [e, zew _ _ _ _ (by omega) (by omega), zke l (fun x hx => h x (by simp [hx]))]
    unfold p3
    rw [zgt, zgt]
    omega
theorem ze1 (a : Nat) (l : List Nat) (h : a < 256) : cat (a :: l) / 256 = cat l := by simp only [cat]; omega
theorem ze2 (a b : Nat) (l : List Nat) (h : a < 256) (h2 : b < 256) : cat (a :: b :: l) / 65536 = cat l := by
  rw [show 65536 = 256 * 256 from rfl, ← Nat.div_div_eq_div_mul, ze1 a _ h, ze1 b _ h2]
theorem znz (a b c d : Nat) (l : List Nat) (h : a < 256) (h2 : b < 256) (h3 : c < 256) (h4 : d < 256) : cat (a :: b :: c :: d :: l) / 4294967296 = cat l := by
  rw [show 4294967296 = 65536 * 65536 from rfl, ← Nat.div_div_eq_div_mul, ze2 a b _ h h2, ze2 c d _ h3 h4]
theorem pop_d (a b c d e f g h : Nat) (ha : a ≤ 8) (hb : b ≤ 8) (hc : c ≤ 8) (hd : d ≤ 8) (he : e ≤ 8) (hf : f ≤ 8) (hg : g ≤ 8) (hh : h ≤ 8) (x y z : Nat)
    (hx : x = cat [a, b, c, d, e, f, g, h] + cat [a, b, c, d, e, f, g, h] / 256) (hy : y = x + x / 65536) (hz : z = y + y / 4294967296) :
    z % 128 = a + b + c + d + e + f + g + h ∧ cat [a, b, c, d, e, f, g, h] < 1152921504606846976 ∧ x < 5000000000000000000 ∧ y < 5000000000000000000 ∧ z < 5000000000000000000 := by
  have e1 : x = cat [a + b, b + c, c + d, d + e, e + f, f + g, g + h, h] := by
    rw [hx, ze1 a _ (by omega)]; simp only [cat]; omega
  have e2 : y = cat [a + b + (c + d), b + c + (d + e), c + d + (e + f), d + e + (f + g), e + f + (g + h), f + g + h, g + h, h] := by
    rw [hy, e1, ze2 _ _ _ (by omega) (by omega)]; simp only [cat]; omega
  have e3 : z = cat [a + b + (c + d) + (e + f + (g + h)), b + c + (d + e) + (f + g + h), c + d + (e + f) + (g + h), d + e + (f + g) + h, e + f + (g + h), f + g + h, g + h, h] := by
    rw [hz, e2, znz _ _ _ _ _ (by omega) (by omega) (by omega) (by omega)]; simp only [cat]; omega
  clear hx hy hz
  refine ⟨?_, ?_, ?_, ?_, ?_⟩
  · rw [e3]
    have h1 : ∀ (p : Nat) (l : List Nat), p < 128 → cat (p :: l) % 128 = p := fun p l h => by simp only [cat]; omega
    rw [h1 _ _ (by omega)]; omega
  · simp only [cat]; omega
  · rw [e1]; simp only [cat]; omega
  · rw [e2]; simp only [cat]; omega
  · rw [e3]; simp only [cat]; omega
theorem pop_all (x x1 x2 x3 x4 x5 x6 : Nat) (h : x < 18446744073709551616) (h1 : x1 = (x / 2 &&& 6148914691236517205) + (x &&& 6148914691236517205)) (h2 : x2 = (x1 / 4 &&& 3689348814741910323) + (x1 &&& 3689348814741910323))
    (h3 : x3 = (x2 / 16 + x2) &&& 1085102592571150095) (h4 : x4 = x3 + x3 / 256) (h5 : x5 = x4 + x4 / 65536) (h6 : x6 = x5 + x5 / 4294967296) :
    x6 % 128 = ((z2v x).map z8r).foldr (· + ·) 0 ∧ x1 < 18446744073709551616 ∧ x2 < 18446744073709551616 ∧ x2 / 16 + x2 < 18446744073709551616 ∧ x3 < 1152921504606846976 ∧ x4 < 5000000000000000000 ∧ x5 < 5000000000000000000 ∧ x6 < 5000000000000000000 := by
  have hb := znu x
  have e1 := pop_a (z2v x) hb
  have k1 : cat ((z2v x).map fun _ => 85) = 6148914691236517205 := by simp [z2v, cat]
  have k2 : cat (((z2v x).map p1).map fun _ => 51) = 3689348814741910323 := by simp [z2v, cat]
  have k3 : cat ((((z2v x).map p1).map p2).map fun _ => 15) = 1085102592571150095 := by simp [z2v, cat]
  rw [zny x h, k1] at e1
  have f1 : x1 = cat ((z2v x).map p1) := h1.trans e1
  have hb1 := zro p1 (fun b hb => (z9o ⟨b, hb⟩).2.1) hb
  have e2 := pop_b _ hb1
  rw [← f1, k2] at e2
  have f2 : x2 = cat (((z2v x).map p1).map p2) := h2.trans e2
  have e3 := zke (((z2v x).map p1).map p2) (fun b hb0 => by
    obtain ⟨c, hc, rfl⟩ := List.mem_map.1 hb0
    obtain ⟨d, hd, rfl⟩ := List.mem_map.1 hc
    exact ⟨(z9o ⟨d, hb d hd⟩).2.2.2.1, (z9o ⟨d, hb d hd⟩).2.2.2.2.1⟩)
  rw [← f2, k3] at e3
  have f3 : x3 = cat ((((z2v x).map p1).map p2).map p3) := h3.trans e3
  have hmm : (((z2v x).map p1).map p2).map p3 = (z2v x).map z8r := by
    rw [List.map_map, List.map_map]
    refine List.map_congr_left fun d hd => (z9o ⟨d, hb d hd⟩).1
  rw [hmm] at f3
  have h8 : ∀ d ∈ z2v x, z8r d ≤ 8 := fun d hd => by rw [← (z9o ⟨d, hb d hd⟩).1]; exact (z9o ⟨d, hb d hd⟩).2.2.2.2.2
  simp only [z2v, List.map_cons, List.map_nil, List.mem_cons, List.not_mem_nil, or_false, forall_eq_or_imp, forall_eq] at h8 f3 ⊢
  obtain ⟨g0, g1, g2, g3, g4, g5, g6, g7⟩ := h8
  have fin := pop_d _ _ _ _ _ _ _ _ g0 g1 g2 g3 g4 g5 g6 g7 x4 x5 x6 (by rw [h4, f3]) h5 h6
  have l1 : x1 < 18446744073709551616 := by
    rw [h1]; have := Nat.and_le_right (n := x / 2) (m := 6148914691236517205); have := Nat.and_le_right (n := x) (m := 6148914691236517205); omega
  have l2 : x2 < 9223372036854775808 := by
    rw [h2]; have := Nat.and_le_right (n := x1 / 4) (m := 3689348814741910323); have := Nat.and_le_right (n := x1) (m := 3689348814741910323); omega
  refine ⟨?_, l1, by omega, by omega, by rw [f3]; exact fin.2.1, fin.2.2.1, fin.2.2.2.1, fin.2.2.2.2⟩
  rw [fin.1]
  simp only [List.foldr_cons, List.foldr_nil]
  omega
theorem zfa (q r : Nat) (h : r < 2) : ones (2 * q + r) = ones q + r := by
  rw [ones]
  by_cases h0 : 2 * q + r = 0
  · obtain rfl : q = 0 := by omega
    obtain rfl : r = 0 := by omega
    rw [if_pos rfl, ones, if_pos rfl]
  · rw [if_neg h0, show (2 * q + r) / 2 = q by omega]; omega
theorem zsh (k : Nat) : ∀ q r, r < 2 ^ k → ones (2 ^ k * q + r) = ones q + ones r := by
  induction k with
  | zero => intro q r h; obtain rfl : r = 0 := by simp at h; exact h
            have e0 : ones 0 = 0 := by rw [ones, if_pos rfl]
            rw [e0, Nat.pow_zero, Nat.one_mul]; rfl
  | succ k ih =>
    intro q r h
    rw [Nat.pow_succ] at h
    rw [Nat.pow_succ, show 2 ^ k * 2 * q + r = 2 * (2 ^ k * q + r / 2) + r % 2 by rw [Nat.mul_right_comm]; omega, zfa _ _ (by omega), ih _ _ (by omega)]
    have := zfa (r / 2) (r % 2) (by omega)
    rw [show 2 * (r / 2) + r % 2 = r by omega] at this
    omega
theorem z7w (n : Nat) : ones n = n % 2 + ones (n / 2) := by
  have := zfa (n / 2) (n % 2) (by omega)
  rw [show 2 * (n / 2) + n % 2 = n by omega] at this
  omega
theorem zsf (n : Nat) (h : n < 256) : ones n = z8r n := by
  have e0 : ones 0 = 0 := by rw [ones, if_pos rfl]
  rw [z7w n, z7w (n / 2), Nat.div_div_eq_div_mul, z7w (n / (2 * 2)), Nat.div_div_eq_div_mul, z7w (n / (2 * 2 * 2)), Nat.div_div_eq_div_mul, z7w (n / (2 * 2 * 2 * 2)), Nat.div_div_eq_div_mul,
    z7w (n / (2 * 2 * 2 * 2 * 2)), Nat.div_div_eq_div_mul, z7w (n / (2 * 2 * 2 * 2 * 2 * 2)), Nat.div_div_eq_div_mul, z7w (n / (2 * 2 * 2 * 2 * 2 * 2 * 2)), Nat.div_div_eq_div_mul,
    Nat.div_eq_of_lt (a := n) (b := 2 * 2 * 2 * 2 * 2 * 2 * 2 * 2) (by omega), e0]
  rfl
theorem ones_sum (x : Nat) (h : x < 18446744073709551616) : ((z2v x).map z8r).foldr (· + ·) 0 = ones x := by
  have hs : ∀ y, ones y = z8r (y % 256) + ones (y / 256) := fun y => by
    have := zsh 8 (y / 256) (y % 256) (by omega)
    rw [show 2 ^ 8 * (y / 256) + y % 256 = y by omega, zsf (y % 256) (by omega)] at this
    rw [this, Nat.add_comm]
  have e9 : ones 0 = 0 := by rw [ones, if_pos rfl]
  simp only [z2v, List.map_cons, List.map_nil, List.foldr_cons, List.foldr_nil]
  rw [hs x, hs (x / 256), Nat.div_div_eq_div_mul, hs (x / (256 * 256)), Nat.div_div_eq_div_mul, hs (x / (256 * 256 * 256)), Nat.div_div_eq_div_mul, hs (x / (256 * 256 * 256 * 256)), Nat.div_div_eq_div_mul,
    hs (x / (256 * 256 * 256 * 256 * 256)), Nat.div_div_eq_div_mul, hs (x / (256 * 256 * 256 * 256 * 256 * 256)), Nat.div_div_eq_div_mul, hs (x / (256 * 256 * 256 * 256 * 256 * 256 * 256)), Nat.div_div_eq_div_mul,
    Nat.div_eq_of_lt (a := x) (b := 256 * 256 * 256 * 256 * 256 * 256 * 256 * 256) (by omega), e9]
end Merk
section
open Go.RowKit Exch
theorem zrb (x : Int) (w : World) (h0 : 0 ≤ x) (h1 : x ≤ 18446744073709551615) :
  Calls Tryz.prog 149 #[.int .u64 x] w fun e w' => e = .returned (.int .i64 (Lib.bitLen x.toNat)) ∧ w' = w := by
 go_enter Tryz.func149, Tryz.ntmps149
 go_wp2_with (go_at_call 162; refine (zra x _ h0 h1).mono ?_; rintro e w' ⟨rfl, rfl⟩)
 go_ret
 exact ⟨rfl, rfl⟩
theorem zh3 : ∀ (k x : Nat), x ≤ k → x ≠ 0 → x < 2 ^ 64 → Lib.bitLen x = x.log2 + 1
 | 0, x, h, h0, _ => by omega
 | k + 1, x, h, h0, hx => by
  rw [Lib.bitLen_half x h0 hx]
  by_cases h2 : x / 2 = 0
  ·obtain rfl : x = 1 := by omega
   decide
  ·rw [zh3 k (x / 2) (by omega) h2 (by omega)]
   conv => rhs; rw [Nat.log2_def, if_pos (by omega)]
   omega
theorem zb9 (n : Nat) (w : World) (h : 2 ≤ n) (h2 : n ≤ 1099511627776) : Calls Tryz.prog 113 #[.int .i64 n] w fun e w' => e = .returned (.int .i64 (Merk.split n : Nat)) ∧ w' = w := by
 have hL := ya (zh3 _ (n - 1) (Nat.le_refl _) (by omega) (by omega))
 have hc : (0 : Int) ≤ (n : Int) - 1 ∧ (n : Int) - 1 ≤ 1099511627776 := by omega
 have HC : ∀ W, Calls Tryz.prog 149 #[.int .u64 ((n : Int) - 1)] W fun e w' => e = .returned (.int .i64 ((n - 1).log2 + 1 : Nat)) ∧ w' = W := fun W => by
  have := zrb ((n : Int) - 1) W (by omega) (by omega)
  rw [show ((n : Int) - 1).toNat = n - 1 by omega, hL.out] at this
  exact this
 have HC2 := ya HC
 have hl : (n - 1).log2 < 41 := (Nat.log2_lt (by omega)).2 (by omega)
 show Calls _ _ _ _ fun e w' => e = .returned (.int .i64 ((2 ^ (n - 1).log2 : Nat) : Int)) ∧ w' = w
 clear HC
 generalize (n - 1).log2 = L at *
 go_enter Tryz.func113, Tryz.ntmps113
 go_wp2_with (go_at_call 149; refine (HC2.out _).mono ?_; rintro e w' ⟨rfl, rfl⟩)
 go_ret
 have hp : (2 : Nat) ^ L ≤ 2 ^ 40 := Nat.pow_le_pow_right (by omega) (by omega)
 have e : wrap64 (2 ^ L) = ((2 ^ L : Nat) : Int) := by
  rw [show ((2 : Int) ^ L) = ((2 ^ L : Nat) : Int) by norm_cast]
  have : ((2 ^ L : Nat) : Int) ≤ ((2 ^ 40 : Nat) : Int) := Int.ofNat_le.2 hp
  have h0 : 0 ≤ ((2 ^ L : Nat) : Int) := Int.natCast_nonneg _
  unfold wrap64; generalize ((2 ^ L : Nat) : Int) = Z at *; omega
 exact ⟨by show Ending.returned (Value.int IntKind.i64 (wrap64 (2 ^ L))) = _; rw [e], rfl⟩
theorem zsd (n : Nat) (w : World) (h : n < 18446744073709551616) : Calls Tryz.prog 164 #[.int .u64 n] w fun e w' => e = .returned (.int .i64 (Merk.ones n : Nat)) ∧ w' = w := by
 obtain ⟨x1, e1⟩ : ∃ x1, x1 = (n / 2 &&& 6148914691236517205) + (n &&& 6148914691236517205) := ⟨_, rfl⟩
 obtain ⟨x2, e2⟩ : ∃ x2, x2 = (x1 / 4 &&& 3689348814741910323) + (x1 &&& 3689348814741910323) := ⟨_, rfl⟩
 obtain ⟨x3, e3⟩ : ∃ x3, x3 = (x2 / 16 + x2) &&& 1085102592571150095 := ⟨_, rfl⟩
 obtain ⟨x4, e4⟩ : ∃ x4, x4 = x3 + x3 / 256 := ⟨_, rfl⟩
 obtain ⟨x5, e5⟩ : ∃ x5, x5 = x4 + x4 / 65536 := ⟨_, rfl⟩
 obtain ⟨x6, e6⟩ : ∃ x6, x6 = x5 + x5 / 4294967296 := ⟨_, rfl⟩
 obtain ⟨hp, l1, l2, l2', l3, l4, l5, l6⟩ := Merk.pop_all n x1 x2 x3 x4 x5 x6 h e1 e2 e3 e4 e5 e6
 rw [Merk.ones_sum n h] at hp
 have a1 : IntKind.u64.wrap (bits .and .u64 ((n : Int) / 2) 6148914691236517205 + bits .and .u64 (n : Int) 6148914691236517205) = (x1 : Int) := by
  have b1 := u64_and_nat (n / 2) 6148914691236517205 (by omega) (by omega)
  have b2 := u64_and_nat n 6148914691236517205 (by omega) (by omega)
  rw [show ((n : Int) / 2) = ((n / 2 : Nat) : Int) by omega]
  refine (congrArg IntKind.u64.wrap (congr (congrArg _ b1) b2)).trans ?_
  rw [IntKind.wrap_u64]; omega
 have a2 : IntKind.u64.wrap (bits .and .u64 ((x1 : Int) / 4) 3689348814741910323 + bits .and .u64 (x1 : Int) 3689348814741910323) = (x2 : Int) := by
  have b1 := u64_and_nat (x1 / 4) 3689348814741910323 (by omega) (by omega)
  have b2 := u64_and_nat x1 3689348814741910323 (by omega) (by omega)
  rw [show ((x1 : Int) / 4) = ((x1 / 4 : Nat) : Int) by omega]
  refine (congrArg IntKind.u64.wrap (congr (congrArg _ b1) b2)).trans ?_
  rw [IntKind.wrap_u64]; omega
 have a3 : bits .and .u64 (IntKind.u64.wrap ((x2 : Int) / 16 + (x2 : Int))) 1085102592571150095 = (x3 : Int) := by
  have b1 := u64_and_nat (x2 / 16 + x2) 1085102592571150095 (by omega) (by omega)
  rw [IntKind.wrap_u64, show ((x2 : Int) / 16 + (x2 : Int)) % 18446744073709551616 = ((x2 / 16 + x2 : Nat) : Int) by omega]
  rw [e3]; exact b1
 have a4 : IntKind.u64.wrap ((x3 : Int) + (x3 : Int) / 256) = (x4 : Int) := by rw [IntKind.wrap_u64]; omega
 have a5 : IntKind.u64.wrap ((x4 : Int) + (x4 : Int) / 65536) = (x5 : Int) := by rw [IntKind.wrap_u64]; omega
 have a6 : IntKind.u64.wrap ((x5 : Int) + (x5 : Int) / 4294967296) = (x6 : Int) := by rw [IntKind.wrap_u64]; omega
 have HA := ya (And.intro a1 (And.intro a2 (And.intro a3 (And.intro a4 (And.intro a5 a6)))))
 have HP := ya hp
 have HL := ya l6
 clear hp l1 l2 l2' l3 l4 l5 l6 e1 e2 e3 e4 e5 e6 a1 a2 a3 a4 a5 a6
 generalize Merk.ones n = R at *
 go_enter Tryz.func164, Tryz.ntmps164
 go_wp2
 obtain ⟨a1, a2, a3, a4, a5, a6⟩ := HA.out
 simp only [a1, a2, a3, a4, a5, a6]
 have l6 := HL.out
 have e : bits .and .i64 (wrap64 (x6 : Int)) 127 = (R : Int) := by
  rw [show wrap64 (x6 : Int) = (x6 : Int) by unfold wrap64; omega, i64_and127, ← HP.out]
  omega
 rw [e]
 go_ret
 exact ⟨rfl, rfl⟩
theorem zhp : ∀ (f n : Nat), n + 1 < 2 ^ f → Lib.ctzFrom f (2 ^ f - 1 - n) = Merk.t1 n
 | 0, n, h => by simp at h
 | f + 1, n, h => by
  rw [Nat.pow_succ] at h ⊢
  have hp := Nat.pow_pos (n := f) (show 0 < 2 by omega)
  rw [Lib.ctzFrom, Merk.t1]
  by_cases h1 : n % 2 = 1
  ·rw [if_neg (by omega), if_pos h1, show (2 ^ f * 2 - 1 - n) / 2 = 2 ^ f - 1 - n / 2 by omega, zhp f (n / 2) (by omega)]
  ·rw [if_pos (by omega), if_neg h1]
def GBru (w : World) : Prop := ∀ k, k < 64 → w.cell? ⟨1, k, none⟩ = some (.int .u8 (Lib.deBruijn64tab.getD k 0 : Nat))
theorem zvw (x : Nat) (w : World) (h : x < 18446744073709551616) (h0 : x ≠ 0) (hg : GBru w) : Calls Tryz.prog 152 #[.int .u64 x] w fun e w' => e = .returned (.int .i64 (Lib.ctz 64 x : Nat)) ∧ w' = w := by
 obtain ⟨hlow, hlt⟩ := Lib.lowest_bit 64 x h0 h
 obtain ⟨hj, ht⟩ := Lib.deBruijn64_at _ hlt
 have hk : Lib.ctz 64 x ≤ 63 := by omega
 obtain ⟨j, hJ⟩ : ∃ j, j = 2 ^ Lib.ctz 64 x * 285870213051353865 % 18446744073709551616 / 288230376151711744 := ⟨_, rfl⟩
 rw [← hJ] at hj ht
 have hc := hg j hj
 rw [ht] at hc
 have hneg : IntKind.u64.wrap (-(x : Int)) = ((2 ^ 64 - x : Nat) : Int) := by rw [IntKind.wrap_u64]; omega
 have hand : bits .and .u64 (x : Int) (IntKind.u64.wrap (-(x : Int))) = ((2 ^ Lib.ctz 64 x : Nat) : Int) := by
  rw [hneg, u64_and_nat _ _ h (by omega), hlow]
 have hidx : IntKind.u64.wrap (bits .and .u64 (x : Int) (IntKind.u64.wrap (-(x : Int))) * 285870213051353865) / 288230376151711744 = (j : Int) := by
  rw [hand, IntKind.wrap_u64, hJ]
  generalize 2 ^ Lib.ctz 64 x = Z
  omega
 have hj2 : 0 ≤ (j : Int) ∧ (j : Int) < 64 := by omega
 have hx : ((x : Int) == 0) = false := by simp; omega
 clear hlow hlt ht hJ hneg hand hg
 generalize Lib.ctz 64 x = R at *
 go_enter Tryz.func152, Tryz.ntmps152
 go_wp2
 go_ret
 exact ⟨rfl, rfl⟩
theorem zp7 (n : Nat) (h : n ≤ 1099511627776) : Lib.ctz 64 (18446744073709551615 - n) = Merk.t1 n := by
 have := zhp 64 n (by omega)
 unfold Lib.ctz
 rw [if_neg (by omega)]
 exact this
theorem zse (n : Nat) (w : World) (h : n < 18446744073709551616) : Calls Tryz.prog 150 #[.int .u64 n] w fun e w' => e = .returned (.int .i64 (Merk.ones n : Nat)) ∧ w' = w := by
 have HC := ya (fun W => zsd n W h)
 generalize Merk.ones n = R at *
 go_enter Tryz.func150, Tryz.ntmps150
 go_wp2_with (go_at_call 164; refine (HC.out _).mono ?_; rintro e w' ⟨rfl, rfl⟩)
 go_ret
 exact ⟨rfl, rfl⟩
theorem zvx (x : Nat) (w : World) (h : x < 18446744073709551616) (h0 : x ≠ 0) (hg : GBru w) : Calls Tryz.prog 116 #[.int .u64 x] w fun e w' => e = .returned (.int .i64 (Lib.ctz 64 x : Nat)) ∧ w' = w := by
 have HC := ya (zvw x w h h0 hg)
 clear hg
 generalize Lib.ctz 64 x = R at *
 go_enter Tryz.func116, Tryz.ntmps116
 go_wp2_with (go_at_call 152; refine HC.out.mono ?_; rintro e w' ⟨rfl, rfl⟩)
 go_ret
 exact ⟨rfl, rfl⟩
theorem GBru.lt {w : World} (h : GBru w) : 1 < w.heap.size := World.block_lt_of_cell? w _ (h 0 (by omega))
theorem GBru.below {w w' : World} (h : GBru w) (hb : Below w.heap.size w w') : GBru w' := fun k hk => (hb.cell (p := ⟨_, k, none⟩) h.lt).trans (h k hk)
/-! Peaks. -/
abbrev pkC (s : Int) (A : Option Addr) (n c : Nat) : Array Value := #[.int .i64 s, .slice A n c]
abbrev pkV (s : Int) (A : Option Addr) (n c : Nat) : Value := .agg (pkC s A n c)
theorem z5o : (Tryz.prog.underlying 39).map z0c = some true := by kernel_rfl
theorem z32 : (Tryz.prog.info? 39).map (·.size) = some 2 := by kernel_rfl
theorem zbm (W : World) : (zeroValue 39).run Tryz.prog W = .ok (pkV 0 none 0 0) W := by kernel_rfl
def z2f (s : Int) (n : Nat) : Bool := decide (0 ≤ s) && (decide (s ≤ 1099511627776) && decide (n = Merk.ones s.toNat))
theorem z9b (s : Int) (A : Option Addr) (n c : Nat) (w : World) : Calls Tryz.prog 115 #[pkV s A n c] w fun e w' => e = .returned (.bool (z2f s n)) ∧ Below w.heap.size w w' := by
 obtain ⟨wa, hwa, hb0, q0⟩ : ∃ wa : World, wa = w.alloc (.cells (pkC s A n c) 39) ∧ Below w.heap.size w wa ∧ Blk wa w.heap.size 39 (pkC s A n c) :=
  ⟨_, rfl, (Below.refl w.heap.size w).alloc (Nat.le_refl _) _, Blk.new _ _ _⟩
 have c0 : wa.cell? ⟨w.heap.size, 0, none⟩ = some (.int .i64 s) := q0.cell 0
 have c1 : wa.cell? ⟨w.heap.size, 1, none⟩ = some (.slice A n c) := q0.cell 1
 have HWA := ya hwa
 clear hwa q0
 have hS : Below wa.heap.size wa wa.drew := (Below.refl _ _).drew
 by_cases h0 : 0 ≤ s
 ·by_cases h1 : s ≤ 1099511627776
  ·obtain ⟨k, rfl⟩ : ∃ k : Nat, s = k := ⟨s.toNat, by omega⟩
   have hk : k ≤ 1099511627776 := by omega
   have hC := ya (fun W => zse k W (by omega))
   have hf : z2f k n = decide (n = Merk.ones k) := by simp [z2f, h1]
   rw [hf]
   clear hf
   generalize Merk.ones k = R at *
   have hcv : wrap64 (k : Int) = (k : Int) := by unfold wrap64; omega
   have hcu : IntKind.u64.wrap (k : Int) = (k : Int) := by rw [IntKind.wrap_u64]; omega
   have g0 : decide (0 ≤ (k : Int)) = true := by simp
   have g1 : decide ((k : Int) ≤ 1099511627776) = true := by simp; omega
   have ge : ((n : Int) == (R : Int)) = decide (n = R) := by by_cases h : n = R <;> simp [h] <;> omega
   have HE := ya ge
   clear ge
   go_enter Tryz.func115, Tryz.ntmps115
   go_upto_region 1 with (fail)
   change Code.wp _ _ _ _ (w.alloc (.cells (pkC k A n c) 39))
   rw [← HWA.out]
   refine yz 18 (by kernel_rfl) ?_
   refine WpT.tk 0 hS ?_
   simp only [nrm]
   refine WpT.tl 1 rfl (yh rfl rfl rfl (by kernel_rfl) c0) hS ?_
   simp only [nrm]
   refine WpT.tk 2 hS ?_
   simp only [nrm]
   refine WpT.tk 3 hS ?_
   simp only [nrm]
   refine WpT.tk 4 hS ?_
   simp only [nrm]
   refine WpT.tl 5 rfl (z2c (by rfl) rfl rfl (by kernel_rfl) c0) hS ?_
   simp only [nrm]
   refine WpT.tk 6 hS ?_
   simp only [nrm]
   refine WpT.tk 7 hS ?_
   simp only [nrm]
   refine WpT.tk 8 hS ?_
   simp only [nrm]
   refine WpT.tk 9 hS ?_
   simp only [nrm]
   refine WpT.tl 10 rfl (z2c (by rfl) rfl rfl (by kernel_rfl) c1) hS ?_
   simp only [nrm]
   refine WpT.tk 11 hS ?_
   simp only [nrm]
   refine WpT.tk 12 hS ?_
   simp only [nrm]
   refine WpT.tl 13 rfl (z2c (by rfl) rfl rfl (by kernel_rfl) c0) hS ?_
   simp only [nrm]
   refine WpT.tk 14 hS ?_
   simp only [nrm]
   refine WpT.on 15 rfl (fun K hK => ?_)
   refine (if_pos (by rfl)).mpr ?_; go_simp; refine (hC.out _).mono ?_; rintro e w5 ⟨rfl, rfl⟩
   refine hK _ _ hS ?_; clear hK K; try simp only [nrm]
   refine WpT.tk 16 hS ?_
   simp only [nrm]
   refine WpT.tk 17 hS ?_
   simp only [nrm]
   refine WpT.ta 18 rfl (fun K hK => ?_)
   go_simp; (try go_bits)
   refine hK _ _ ?_; clear hK K; try simp only [nrm]
   refine WpT.done (by kernel_rfl) ?_ _
   go_wp2_with fail; go_ret; exact ⟨by first | rfl | (simp [HE.out]), yb hb0 hS⟩
  ·have hf : z2f s n = false := by simp [z2f, h1]
   rw [hf]
   have g0 : decide (0 ≤ s) = true := by simp [h0]
   have g1 : decide (s ≤ 1099511627776) = false := by simp; omega
   go_enter Tryz.func115, Tryz.ntmps115
   go_upto_region 1 with (fail)
   change Code.wp _ _ _ _ (w.alloc (.cells (pkC s A n c) 39))
   rw [← HWA.out]
   refine yz 18 (by kernel_rfl) ?_
   refine WpT.tk 0 hS ?_
   simp only [nrm]
   refine WpT.tl 1 rfl (yh rfl rfl rfl (by kernel_rfl) c0) hS ?_
   simp only [nrm]
   refine WpT.tk 2 hS ?_
   simp only [nrm]
   refine WpT.tk 3 hS ?_
   simp only [nrm]
   refine WpT.tk 4 hS ?_
   simp only [nrm]
   refine WpT.tl 5 rfl (z2c (by rfl) rfl rfl (by kernel_rfl) c0) hS ?_
   simp only [nrm]
   refine WpT.tk 6 hS ?_
   simp only [nrm]
   refine WpT.tk 7 hS ?_
   simp only [nrm]
   refine WpT.tk 8 hS ?_
   simp only [nrm]
   refine WpT.of [(9, 12), (10, 13), (11, 14)] (hS) ?_
   simp only [nrm]
   refine WpT.of [(12, 15), (13, 16), (14, 17)] (hS) ?_
   simp only [nrm]
   refine WpT.of [(15, 18), (16, 19)] (hS) ?_
   simp only [nrm]
   refine WpT.tk 17 hS ?_
   simp only [nrm]
   refine WpT.ta 18 rfl (fun K hK => ?_)
   go_simp; (try go_bits)
   refine hK _ _ ?_; clear hK K; try simp only [nrm]
   refine WpT.done (by kernel_rfl) ?_ _
   go_wp2_with fail; go_ret; exact ⟨rfl, yb hb0 hS⟩
 ·have hf : z2f s n = false := by simp [z2f, h0]
  rw [hf]
  have g0 : decide (0 ≤ s) = false := by simp [h0]
  go_enter Tryz.func115, Tryz.ntmps115
  go_upto_region 1 with (fail)
  change Code.wp _ _ _ _ (w.alloc (.cells (pkC s A n c) 39))
  rw [← HWA.out]
  refine yz 18 (by kernel_rfl) ?_
  refine WpT.tk 0 hS ?_
  simp only [nrm]
  refine WpT.tl 1 rfl (yh rfl rfl rfl (by kernel_rfl) c0) hS ?_
  simp only [nrm]
  refine WpT.tk 2 hS ?_
  simp only [nrm]
  refine WpT.tk 3 hS ?_
  simp only [nrm]
  refine WpT.of [(4, 7), (5, 8), (6, 9)] (hS) ?_
  simp only [nrm]
  refine WpT.tk 7 hS ?_
  simp only [nrm]
  refine WpT.tk 8 hS ?_
  simp only [nrm]
  refine WpT.of [(9, 12), (10, 13), (11, 14)] (hS) ?_
  simp only [nrm]
  refine WpT.of [(12, 15), (13, 16), (14, 17)] (hS) ?_
  simp only [nrm]
  refine WpT.of [(15, 18), (16, 19)] (hS) ?_
  simp only [nrm]
  refine WpT.tk 17 hS ?_
  simp only [nrm]
  refine WpT.ta 18 rfl (fun K hK => ?_)
  go_simp; (try go_bits)
  refine hK _ _ ?_; clear hK K; try simp only [nrm]
  refine WpT.done (by kernel_rfl) ?_ _
  go_wp2_with fail; go_ret; exact ⟨rfl, yb hb0 hS⟩
theorem zpg (l : List Nat) (k : Nat) (h : k ≤ l.length) : (z3q l).take (k * 16) = z3q (l.take k) := zc7 z09 l k h
theorem zpf (l : List Nat) (k : Nat) (h : k ≤ l.length) : (z3q l).drop (k * 16) = z3q (l.drop k) := zeo z09 l k h
theorem RdD.take {W : World} {A : Option Addr} {n : Nat} {l : List Nat} (h : RdD W A n l) {k : Nat} (hk : k ≤ n) : RdD W A k (l.take k) := by
 have hl := h.len
 refine ⟨by rw [List.length_take]; omega, ?_⟩
 have := h.rd.take (k := k * 16) (by omega)
 rwa [zpg l k (by omega)] at this
theorem RdD.drop {W : World} {A : Option Addr} {n c : Nat} {l : List Nat} (h : RdD W A n l) {k : Nat} (hk : k ≤ n) (hc : n ≤ c) : RdD W (if c = k then A else A.map (·.add (k * 16))) (n - k) (l.drop k) := by
 have hl := h.len
 refine ⟨by rw [List.length_drop]; omega, ?_⟩
 have h2 := h.rd.cut (cap := c * 16) (k := k * 16) (by omega) (by omega)
 have e : (c * 16 = k * 16) ↔ (c = k) := by omega
 simp only [e] at h2
 rw [← Nat.sub_mul, zpf l k (by omega)] at h2
 exact h2
def z62 (x : Nat) (w : World) (e : Ending) (w' : World) : Prop := e = .returned (dgV x) ∧ Below w.heap.size w w'
theorem z9q {nd : Nat → Nat → Nat} {em : Nat} (N : Nds nd em) (K : Nat) : ∀ (l : List Nat) (A : Option Addr) (n c : Nat) (w : World), n ≤ K → n ≤ 1000000 → RdD w A n l → n ≤ c → c ≤ maxLen → GCon w →
  Calls Tryz.prog 67 #[.slice A n c] w (z62 (Merk.root nd em l) w) := by
 induction K with
 | zero =>
  intro l A n c w hK hn hr hnc hcm hg
  obtain rfl : n = 0 := by omega
  obtain rfl := List.eq_nil_of_length_eq_zero hr.len
  rw [Merk.root_nil]
  have HE := ya N.empty
  have HG := ya hg
  clear hg hr
  unfold z62
  go_enter Tryz.func67, Tryz.ntmps67
  go_upto_region 1 with ((with_reducible show wpList _ _ _ _ _ _); refine z1o (cs := dgC 0) rfl rfl z0z ?_; intro w0 g0 hg0 q0 hb0 lt0; have HG0 := ya hg0; clear hg0)
  go_wp2_with fail
  refine (HE.out _ (HG.out.below hb0)).mono ?_
  rintro e w2 ⟨rfl, hb2⟩
  have q2 := q0.below hb2
  go_wp2_with ((with_reducible show wpList _ _ _ _ _ _); refine z0i (vs := dgC em) rfl rfl rfl rfl q2 (by rw [yc, yc]) (by rw [yf, yc]) (z0d _) ?_; intro w9 ht9 b9)
  exact z0s rfl rfl rfl b9 yu (by rw [yf, yc]) ⟨rfl, (yb hb0 hb2).trans (ht9.below _ (by have := HG0.out; omega))⟩
 | succ K ih =>
  intro l A n c w hK hn hr hnc hcm hg
  by_cases h0 : n = 0
  ·exact ih l A n c w (by omega) hn hr hnc hcm hg
  by_cases h1 : n = 1
  ·subst h1
   match l, hr.len with
   | [x], _ =>
   rw [Merk.root_one]
   obtain ⟨ad, rfl, _⟩ := hr.elem (i := 0) (by simp)
   have HR := ya hr
   clear hr hg
   unfold z62
   go_enter Tryz.func67, Tryz.ntmps67
   go_upto_region 1 with ((with_reducible show wpList _ _ _ _ _ _); refine z1o (cs := dgC 0) rfl rfl z0z ?_; intro w0 g0 hg0 q0 hb0 lt0; have HG0 := ya hg0; clear hg0)
   obtain ⟨ad2, e2, hc⟩ := (HR.out.below hb0).elem (i := 0) (by simp)
   obtain rfl := Option.some.inj e2
   rw [Nat.zero_mul] at hc
   simp only [List.getElem_cons_zero] at hc
   clear e2
   go_wp2_with (first
    | ((with_reducible show wpList _ _ _ _ _ _); refine yw (us := bv (dg x)) rfl rfl rfl yu (by rw [yf, z09]) hc ?_)
    | ((with_reducible show wpList _ _ _ _ _ _); refine z0i (vs := dgC x) rfl rfl rfl rfl q0 (by rw [yc, yc]) (by rw [yf, yc]) (z0d _) ?_; intro w9 ht9 b9))
   exact z0s rfl rfl rfl b9 yu (by rw [yf, yc]) ⟨rfl, hb0.trans (ht9.below _ (by have := HG0.out; omega))⟩
  ·have hk1 := Merk.split_lt (n := n) (by omega)
   have hk0 := Merk.split_pos n
   have hl := hr.len
   have HS := ya (fun W => zb9 n W (by omega) (by omega))
   have hx : Merk.root nd em l = nd (Merk.root nd em (l.take (Merk.split n))) (Merk.root nd em (l.drop (Merk.split n))) := by rw [Merk.root_two nd em (by omega), hl]
   rw [hx]
   have HT := ya (fun (W : World) (hb : Below w.heap.size w W) => ih (l.take (Merk.split n)) A (Merk.split n) (Merk.split n) W (by omega) (by omega) ((hr.below hb).take (by omega)) (Nat.le_refl _) (by omega) (hg.below hb))
   have HD := ya (fun (W : World) (hb : Below w.heap.size w W) => ih (l.drop (Merk.split n)) (if n = Merk.split n then A else A.map (·.add (Merk.split n * 16))) (n - Merk.split n) (n - Merk.split n) W (by omega) (by omega) ((hr.below hb).drop (by omega) (Nat.le_refl _)) (Nat.le_refl _) (by omega) (hg.below hb))
   have HN := ya (N.node (Merk.root nd em (l.take (Merk.split n))) (Merk.root nd em (l.drop (Merk.split n))))
   have HG := ya hg
   have hcm2 : c ≤ 9223372036854775807 := hcm
   clear hx hr hg hl ih hcm
   generalize Merk.root nd em (l.take (Merk.split n)) = X at *
   generalize Merk.root nd em (l.drop (Merk.split n)) = Y at *
   generalize Merk.split n = k at *
   generalize nd X Y = Z at *
   unfold z62 at HT HD ⊢
   have e0 : ((n : Int) == 0) = false := by simp; omega
   have e1 : ((n : Int) == 1) = false := by simp; omega
   go_enter Tryz.func67, Tryz.ntmps67
   go_upto_region 4 with (first
    | ((with_reducible show wpList _ _ _ _ _ _); refine z1o (cs := dgC 0) rfl rfl z0z ?_; intro w0 g0 hg0 q0 hb0 lt0; have HG0 := ya hg0; clear hg0)
    | (go_at_call 113; refine (HS.out _).mono ?_; rintro e w1 ⟨rfl, rfl⟩))
   have hS : Below w1.heap.size w1 w1.drew := (Below.refl _ _).drew
   refine yz 12 (by kernel_rfl) ?_
   refine WpT.tk 0 hS ?_
   simp only [nrm]
   refine WpT.tk 1 hS ?_
   simp only [nrm]
   refine WpT.tk 2 hS ?_
   simp only [nrm]
   refine WpT.tk 3 hS ?_
   simp only [nrm]
   refine WpT.tk 5 hS ?_
   simp only [nrm]
   refine WpT.tk 6 hS ?_
   simp only [nrm]
   refine WpT.tk 7 hS ?_
   simp only [nrm]
   refine WpT.tk 8 hS ?_
   simp only [nrm]
   refine WpT.tk 9 hS ?_
   simp only [nrm]
   refine WpT.on 4 rfl (fun K hK => ?_)
   go_simp; refine (HT.out _ (yb hb0 hS)).mono ?_; rintro e w5 ⟨rfl, hb5⟩; replace hS := yb hS hb5
   refine hK _ _ hS ?_; clear hK K; try simp only [nrm]
   refine WpT.on 10 rfl (fun K hK => ?_)
   go_simp; refine (HD.out _ (yb hb0 hS)).mono ?_; rintro e w6 ⟨rfl, hb6⟩; replace hS := yb hS hb6
   refine hK _ _ hS ?_; clear hK K; try simp only [nrm]
   refine WpT.on 11 rfl (fun K hK => ?_)
   go_simp; refine (HN.out _ (HG.out.below (yb hb0 hS))).mono ?_; rintro e w7 ⟨rfl, hb7⟩; replace hS := yb hS hb7; have q5 := q0.below hS
   refine hK _ _ hS ?_; clear hK K; try simp only [nrm]
   refine WpT.ta 12 rfl (fun K hK => ?_)
   refine (if_pos (by rfl)).mpr ?_; refine yl (vs := dgC Z) rfl rfl rfl q5 (by rw [yc, yc]) (by rw [yf, yc]) (z0d _) ?_; intro w9 ht9 b9
   refine hK _ _ ?_; clear hK K; try simp only [nrm]
   refine WpT.done (by kernel_rfl) ?_ _
   go_wp2_with fail; exact z0s rfl rfl rfl b9 yu (by rw [yf, yc]) ⟨rfl, (yb hb0 hS).trans (ht9.below _ (by have := HG0.out; omega))⟩
theorem zph {α} [DecidableEq α] {a b : List α} {k : Nat} (ha : k < a.length) (hb : k < b.length) (h : a[k] ≠ b[k]) : decide (a = b) = false := by
 rw [decide_eq_false_iff_not]
 intro e
 subst e
 exact h rfl
theorem yx.app {w : World} {B : Nat} {v : Value} {a b : List Nat} (h : w.ownsRow B 25 16 v (a.length + b.length) (z3q a ++ z3q b)) : yx w B v (a ++ b) := by
 unfold yx
 rw [List.length_append, zc0]
 exact h
theorem Merk.incl_len (nd : Nat → Nat → Nat) (em : Nat) (K : Nat) : ∀ (l : List Nat) (i : Nat), l.length ≤ K → (Merk.incl nd em l i).length ≤ l.length := by
 induction K with
 | zero => intro l i h; rw [Merk.incl, dif_neg (by omega)]; simp
 | succ K ih =>
  intro l i h
  rw [Merk.incl]
  by_cases h2 : 2 ≤ l.length
  ·have h3 := Merk.split_lt h2
   have h4 := Merk.split_pos l.length
   rw [dif_pos h2]
   split
   ·rw [List.length_append]; have := ih (l.take (Merk.split l.length)) i (by simp; omega); simp at this ⊢; omega
   ·rw [List.length_append]; have := ih (l.drop (Merk.split l.length)) (i - Merk.split l.length) (by simp; omega); simp at this ⊢; omega
  ·rw [dif_neg h2]; simp
theorem Merk.incl_left (nd : Nat → Nat → Nat) (em : Nat) {l : List Nat} {i : Nat} (h : 2 ≤ l.length) (hi : i < Merk.split l.length) : Merk.incl nd em l i = Merk.incl nd em (l.take (Merk.split l.length)) i ++ [Merk.root nd em (l.drop (Merk.split l.length))] := by
 rw [Merk.incl, dif_pos h, if_pos hi]
theorem Merk.incl_right (nd : Nat → Nat → Nat) (em : Nat) {l : List Nat} {i : Nat} (h : 2 ≤ l.length) (hi : ¬ i < Merk.split l.length) : Merk.incl nd em l i = Merk.incl nd em (l.drop (Merk.split l.length)) (i - Merk.split l.length) ++ [Merk.root nd em (l.take (Merk.split l.length))] := by
 rw [Merk.incl, dif_pos h, if_neg hi]
theorem Merk.incl_one (nd : Nat → Nat → Nat) (em : Nat) {l : List Nat} {i : Nat} (h : ¬ 2 ≤ l.length) : Merk.incl nd em l i = [] := by
 rw [Merk.incl, dif_neg h]
/-! Paths, or errors. -/
def z3h (nd : Nat → Nat → Nat) (em : Nat) (l : List Nat) (i : Int) : List Nat × Int := if 0 ≤ i ∧ i < l.length then (Merk.incl nd em l i.toNat, 0) else ([], 1)
def z5q (nd : Nat → Nat → Nat) (em : Nat) (l : List Nat) (m : Int) : List Nat × Int := if 0 ≤ m ∧ m ≤ l.length then (if m = 0 ∨ m = l.length then ([], 0) else (Merk.csy nd em l m.toNat true, 0)) else ([], 1)
theorem zbf {P : Program} {w : World} {ops : Array Oper} {rest : List Oper} {o : Oper} {a : Act} {Q : Exit → Act → World → Prop} (hgd : o.guard = none) {T : TypeId} {i : Nat} {x : Operand} {vx v : Value} (ho : o.op = .build T #[(i, x)]) (hx : a.eval x = vx)
  (hr : ∀ W, (Instr.build T #[(i, vx)]).run P W = .ok v W) (h : wpList P ops Q rest (a.put o.dst v) w) : wpList P ops Q (o :: rest) a w := by
 refine wpList_plain hgd fun K hK => ?_
 unfold Oper.wp execOp
 simp only [ho, List.map_toArray, List.map_cons, List.map_nil, hx, Sem.run_bind, hr, Result.andThen_ok, Sem.run_pure]
 exact hK _ _ h
theorem z61 {P : Program} {w : World} {ops : Array Oper} {rest : List Oper} {o : Oper} {a : Act} {Q : Exit → Act → World → Prop} (hgd : o.guard = none) {T : TypeId} {v : Value} (ho : o.op = .build T #[])
  (hr : ∀ W, (Instr.build T #[]).run P W = .ok v W) (h : wpList P ops Q rest (a.put o.dst v) w) : wpList P ops Q (o :: rest) a w := by
 refine wpList_plain hgd fun K hK => ?_
 unfold Oper.wp execOp
 simp only [ho, List.map_toArray, List.map_nil, Sem.run_bind, hr, Result.andThen_ok, Sem.run_pure]
 exact hK _ _ h
theorem Merk.csy_true (nd : Nat → Nat → Nat) (em : Nat) {l : List Nat} {m : Nat} (h : m = l.length) : Merk.csy nd em l m true = [] := by rw [Merk.csy, if_pos h, if_pos rfl]
theorem Merk.csy_false (nd : Nat → Nat → Nat) (em : Nat) {l : List Nat} {m : Nat} (h : m = l.length) : Merk.csy nd em l m false = [Merk.root nd em l] := by rw [Merk.csy, if_pos h, if_neg (by simp)]
theorem Merk.csy_left (nd : Nat → Nat → Nat) (em : Nat) {l : List Nat} {m : Nat} (k : Bool) (h : m ≠ l.length) (h2 : 2 ≤ l.length) (hi : m ≤ Merk.split l.length) : Merk.csy nd em l m k = Merk.csy nd em (l.take (Merk.split l.length)) m k ++ [Merk.root nd em (l.drop (Merk.split l.length))] := by
 rw [Merk.csy, if_neg h, dif_pos h2, if_pos hi]
theorem Merk.csy_right (nd : Nat → Nat → Nat) (em : Nat) {l : List Nat} {m : Nat} (k : Bool) (h : m ≠ l.length) (h2 : 2 ≤ l.length) (hi : ¬ m ≤ Merk.split l.length) : Merk.csy nd em l m k = Merk.csy nd em (l.drop (Merk.split l.length)) (m - Merk.split l.length) false ++ [Merk.root nd em (l.take (Merk.split l.length))] := by
 rw [Merk.csy, if_neg h, dif_pos h2, if_neg hi]
theorem Merk.csy_len (nd : Nat → Nat → Nat) (em : Nat) (K : Nat) : ∀ (l : List Nat) (m : Nat) (k : Bool), l.length ≤ K → 1 ≤ m → m ≤ l.length → (Merk.csy nd em l m k).length ≤ l.length := by
 induction K with
 | zero => intro l m k h h1 h2; omega
 | succ K ih =>
  intro l m k h h1 h2
  by_cases he : m = l.length
  ·cases k
   ·rw [Merk.csy_false nd em he]; simp; omega
   ·rw [Merk.csy_true nd em he]; simp
  ·have h3 := Merk.split_lt (n := l.length) (by omega)
   have h4 := Merk.split_pos l.length
   by_cases hi : m ≤ Merk.split l.length
   ·rw [Merk.csy_left nd em k he (by omega) hi, List.length_append]; have := ih (l.take (Merk.split l.length)) m k (by simp; omega) h1 (by simp; omega); simp at this ⊢; omega
   ·rw [Merk.csy_right nd em k he (by omega) hi, List.length_append]; have := ih (l.drop (Merk.split l.length)) (m - Merk.split l.length) false (by simp; omega) (by omega) (by simp; omega); simp at this ⊢; omega
theorem z47 {P : Program} {ops : Array Oper} {S : World → Prop} {o : Oper} {a : Act} {t : TypeId} {x : Operand} {p : Addr} {v : Value} (ho : o.op = .load t x) (hg : o.guard = none) (ha : a.eval x = .pointer (some p))
  (hu : (P.underlying t).map z0c = some false) (hc : ∀ W, S W → W.cell? p = some v) : YieldsIf P ops S o v a := by
 refine .inl ⟨by simp [Region.wanted, hg], fun w hS => ?_⟩
 unfold execOp
 simp only [ho, ha, Instr.loadAt, Instr.sureAddr, Sem.run_bind, Sem.run_pure, Result.andThen_ok, z9s w p t v hu (hc w hS)]
theorem zb2 {w : World} {B : Nat} {e : TypeId} {k : Nat} {v : Value} {n : Nat} {xs : List Value} (h : w.ownsRow B e k v n xs) {g : Nat} (hg : g < B) : v.ownBlock ≠ some g := fun e2 => by
 rcases h.2 with ⟨rfl, _⟩ | ⟨g2, cap2, cur2, rfl, h3, _⟩
 ·cases e2
 ·have : g2 = g := Option.some.inj e2
  omega
theorem zb3 {w : World} {B : Nat} {e : TypeId} {k n : Nat} {v : Value} {xs : List Value} (h : w.ownsRow B e k v n xs) : v.oneCell' = true := by
 rcases h.2 with ⟨rfl, _⟩ | ⟨_, _, _, rfl, _⟩ <;> rfl
theorem zh4 {w w' : World} {g : Nat} {t : TypeId} {cs : Array Value} {row : Option Nat} (h : Blk w g t cs) (hg : w.grownBy w' row) (hn : row ≠ some g) : Blk w' g t cs := (hg.block g h.lt (fun e => hn e.symm)).trans h
theorem z2j {P : Program} {ops : Array Oper} {Q : Exit → Act → World → Prop} {id : Nat} {a : Act} {w : World} {S : World → Prop} (t : Nat) (hm : P.follows .mixedOrders = true)
  (h : WpT P ops Q S t ops.size (Array.replicate ops.size false) a w.drew) : (Code.region id ops true).wp P Q a w :=
 wp_region_any hm (WpT.any _ _ _ _ h)
structure Pos (w0 : World) (gp gt B : Nat) : Prop where
 p : w0.heap.size ≤ gp
 t : w0.heap.size ≤ gt
 ne : gp ≠ gt
 pB : gp < B
 tB : gt < B
structure z48 (w0 : World) (gp gt B : Nat) (tf : TypeId) (F v : Value) (W : World) : Prop where
 old : Below w0.heap.size w0 W
 fn : Blk W gp tf #[F]
 var : Blk W gt 37 #[v]
 sz : B ≤ W.heap.size
section
variable {w0 W W' : World} {gp gt B : Nat} {tf : TypeId} {F v v' : Value}
theorem z48.below (h : z48 w0 gp gt B tf F v W) (hb : Below W.heap.size W W') : z48 w0 gp gt B tf F v W' :=
 ⟨yb h.old hb, h.fn.below hb, h.var.below hb, Nat.le_trans h.sz hb.size⟩
theorem z48.grown (h : z48 w0 gp gt B tf F v W) (hp : Pos w0 gp gt B) {row : Option Nat} (hg : W.grownBy W' row) (hb : Below B W W') (hr : ∀ g, row = some g → B ≤ g) : z48 w0 gp gt B tf F v W' :=
 ⟨h.old.trans (hb.mono (by have := hp.p; have := hp.pB; omega)), zh4 h.fn hg (fun e => by have := hr _ e; have := hp.pB; omega), zh4 h.var hg (fun e => by have := hr _ e; have := hp.tB; omega), Nat.le_trans h.sz hb.size⟩
theorem z48.turned (h : z48 w0 gp gt B tf F v W) (hp : Pos w0 gp gt B) (ht : z0w gt W W') (hv : Blk W' gt 37 #[v']) : z48 w0 gp gt B tf F v' W' :=
 ⟨h.old.trans (ht.below _ hp.t), ht.blk h.fn hp.ne, hv, by rw [ht.size]; exact h.sz⟩
theorem zb4 {w : World} {B : Nat} {e : TypeId} {k n : Nat} {v : Value} {xs : List Value} (h : w.ownsRow B e k v n xs) : ∀ g, v.ownBlock = some g → B ≤ g := fun g e => (World.ownsRow.lt h g e).1
end
def Acc (w0 : World) (gp gt B : Nat) (tf : TypeId) (F : Value) (P : List Nat) (W : World) : Prop := ∃ v, z48 w0 gp gt B tf F v W ∧ yx W B v P
theorem Acc.below {w0 W W' : World} {gp gt B : Nat} {tf : TypeId} {F : Value} {P : List Nat} (h : Acc w0 gp gt B tf F P W) (hb : Below W.heap.size W W') : Acc w0 gp gt B tf F P W' := by
 obtain ⟨v, h1, h2⟩ := h
 exact ⟨v, h1.below hb, h2.below hb⟩
def z5m (w0 : World) (gp gt B : Nat) (tf : TypeId) (F : Value) (P : List Nat) (e : Ending) (w' : World) : Prop := e = .returned (.tuple #[]) ∧ Acc w0 gp gt B tf F P w'
abbrev fnV (f : FuncId) (caps : List Nat) : Value := .func (.func f) #[] (caps.map fun g => Value.pointer (some ⟨g, 0, none⟩)).toArray
theorem zqr {nd : Nat → Nat → Nat} {em : Nat} (N : Nds nd em) (w0 : World) (gp gt B : Nat) (hpos : Pos w0 gp gt B) (hg : GCon w0) (K : Nat) : ∀ (l : List Nat) (i : Nat) (A : Option Addr) (n c : Nat) (P : List Nat) (w : World), n ≤ K → n ≤ 1000000 → P.length + n ≤ 2000000 → i < n → RdD w0 A n l → n ≤ c → c ≤ maxLen →
  Acc w0 gp gt B 163 (fnV 125 [gp, gt]) P w →
  Calls Tryz.prog 125 #[.slice A n c, .int .i64 i, .pointer (some ⟨gp, 0, none⟩), .pointer (some ⟨gt, 0, none⟩)] w (z5m w0 gp gt B 163 (fnV 125 [gp, gt]) (P ++ Merk.incl nd em l i)) := by
 induction K with
 | zero => intro l i A n c P w hK hn hP hi; omega
 | succ K ih =>
  intro l i A n c P w hK hn hP hi hr hnc hcm hacc
  have hl := hr.len
  by_cases h1 : n = 1
  ·subst h1
   rw [Merk.incl_one nd em (by omega), List.append_nil]
   unfold z5m
   go_enter Tryz.func125, Tryz.ntmps125
   go_wp2_with fail
   refine bodyPost_ret (results_none rfl _ _ _) rfl ?_
   exact ⟨rfl, hacc⟩
  ·have hk1 := Merk.split_lt (n := n) (by omega)
   have hk0 := Merk.split_pos n
   have HS := ya (fun W => zb9 n W (by omega) (by omega))
   have hcm2 : c ≤ 9223372036854775807 := hcm
   have e1 : ((n : Int) == 1) = false := by simp; omega
   by_cases hik : i < Merk.split n
   ·
    have hx := Merk.incl_left nd em (l := l) (i := i) (by omega) (by rw [hl]; exact hik)
    rw [hl] at hx
    have hpl := Merk.incl_len nd em _ (l.take (Merk.split n)) i (Nat.le_refl _)
    rw [List.length_take] at hpl
    have HI := ya (fun (W : World) (h : Acc w0 gp gt B 163 (fnV 125 [gp, gt]) P W) => ih (l.take (Merk.split n)) i A (Merk.split n) (Merk.split n) P W (by omega) (by omega) (by omega) hik (hr.take (by omega)) (Nat.le_refl _) (by omega) h)
    have HRT := ya (fun (W : World) (hb : Below w0.heap.size w0 W) => z9q N n (l.drop (Merk.split n)) (if c = Merk.split n then A else A.map (·.add (Merk.split n * 16))) (n - Merk.split n) (c - Merk.split n) W (by omega) (by omega) ((hr.drop (by omega) hnc).below hb) (by omega) (by omega) (hg.below hb))
    rw [hx, ← List.append_assoc]
    have HPL : Hid (P.length + (Merk.incl nd em (l.take (Merk.split n)) i).length + 1 ≤ 3000000) := ya (by omega)
    clear hx ih hr hcm hl hpl 
    generalize Merk.root nd em (l.drop (Merk.split n)) = X at *
    generalize Merk.incl nd em (l.take (Merk.split n)) i = Q at *
    generalize Merk.split n = k at *
    obtain ⟨v, hSv, hownv⟩ := hacc
    have hfn := hSv.fn.below (Below.refl w.heap.size w).drew
    have hacc2 : Acc w0 gp gt B 163 (fnV 125 [gp, gt]) P w.drew := Acc.below ⟨v, hSv, hownv⟩ (Below.refl _ _).drew
    have HACC := ya hacc2
    clear hSv hownv hacc2
    unfold z5m at HI ⊢
    unfold z62 at HRT
    have HPQ : Hid ((P ++ Q).length + 1 ≤ 3000000) := ya (by rw [List.length_append]; exact HPL.out)
    generalize P ++ Q = PQ at *
    generalize hF : fnV 125 [gp, gt] = F at *
    have HF := ya hF.symm
    clear hF
    have hik2 : (i : Int) < (k : Int) := by omega
    go_enter Tryz.func125, Tryz.ntmps125
    go_upto_region 3 with (go_at_call 113; refine (HS.out _).mono ?_; rintro e w1 ⟨rfl, rfl⟩)
    rw [HF.out] at hfn
    refine z2j (S := fun W => Blk W gp 163 #[fnV 125 [gp, gt]]) 7 (by kernel_rfl) ?_
    refine WpT.tl 0 rfl (z47 rfl rfl rfl (by kernel_rfl) (fun W h => h.cell 0)) hfn ?_
    simp only [nrm]
    refine WpT.tk 1 hfn ?_
    simp only [nrm]
    refine WpT.tk 2 hfn ?_
    simp only [nrm]
    refine WpT.tk 3 hfn ?_
    simp only [nrm]
    refine WpT.tk 4 hfn ?_
    simp only [nrm]
    refine WpT.tk 5 hfn ?_
    simp only [nrm]
    refine WpT.on 6 rfl (fun K hK => ?_)
    go_simp; refine (HI.out _ HACC.out).mono ?_; rintro e w5 ⟨rfl, v5, hS5, hown5⟩; have hfn5 := hS5.fn; rw [HF.out] at hfn5
    refine hK _ _ hfn5 ?_; clear hK K; try simp only [nrm]
    refine WpT.done (by kernel_rfl) ?_ _
    skip
    clear hfn hfn5 HACC
    have hS := hS5.below (Below.refl w5.heap.size w5).drew
    replace hown5 := hown5.below (Below.refl w5.heap.size w5).drew
    clear hS5
    go_upto_region 4 with (fail)
    refine z2j (S := z48 w0 gp gt B 163 F v5) 7 (by kernel_rfl) ?_
    refine WpT.tl 0 rfl (z47 rfl rfl rfl (by kernel_rfl) (fun W h => h.var.cell 0)) hS ?_
    simp only [nrm]
    refine WpT.tk 1 hS ?_
    simp only [nrm]
    refine WpT.tk 2 hS ?_
    simp only [nrm]
    refine WpT.tk 3 hS ?_
    simp only [nrm]
    refine WpT.on 4 rfl (fun K hK => ?_)
    go_simp; refine (HRT.out _ hS.old).mono ?_; rintro e w6 ⟨rfl, hb6⟩; replace hS := hS.below hb6; replace hown5 := hown5.below hb6
    refine hK _ _ hS ?_; clear hK K; try simp only [nrm]
    refine WpT.on 5 rfl (fun K hK => ?_)
    refine (if_pos (by rfl)).mpr ?_; refine z85 rfl (by rfl) ?_; intro w7 g7 hg7 hr7 hb7; clear hg7; replace hS := hS.below hb7; replace hown5 := hown5.below hb7
    refine hK _ _ hS ?_; clear hK K; try simp only [nrm]
    refine WpT.on 6 rfl (fun K hK => ?_)
    refine (if_pos (by rfl)).mpr ?_; refine z84 rfl z6z (by rfl) hown5 (by rfl) (m := 1) hr7 (z75 [X]) (by have := HPQ.out; omega) hS.sz ?_; intro v8 w8 hown8 hg8 hb8; replace hS := hS.grown hpos hg8 hb8 (zb4 hown5); replace hown8 : yx w8 B v8 (PQ ++ [X]) := yx.app hown8
    refine hK _ _ hS ?_; clear hK K; try simp only [nrm]
    refine WpT.ta 7 rfl (fun K hK => ?_)
    refine (if_pos (by rfl)).mpr ?_; refine z7f (j := 0) (v := v8) (cs' := #[v8]) rfl (by kernel_rfl) (by rfl) (by rfl) (zb3 hown8) hS.var (by simp) (by simp) ?_; intro w9 ht9 b9
    refine hK _ _ ?_; clear hK K; try simp only [nrm]
    refine WpT.done (by kernel_rfl) ?_ _
    skip
    have hfin : Acc w0 gp gt B 163 F (PQ ++ [X]) w9 := ⟨v8, hS.turned hpos ht9 b9, ht9.own hown8 (zb2 hown8 hpos.tB)⟩
    clear hS hown8 hown5 ht9 b9
    go_wp2_with fail
    refine bodyPost_end (results_none rfl _ _ _) rfl ?_
    exact ⟨rfl, hfin⟩
   ·
    have hx := Merk.incl_right nd em (l := l) (i := i) (by omega) (by rw [hl]; exact hik)
    rw [hl] at hx
    have hpl := Merk.incl_len nd em _ (l.drop (Merk.split n)) (i - Merk.split n) (Nat.le_refl _)
    rw [List.length_drop] at hpl
    have HI := ya (fun (W : World) (h : Acc w0 gp gt B 163 (fnV 125 [gp, gt]) P W) => ih (l.drop (Merk.split n)) (i - Merk.split n) (if c = Merk.split n then A else A.map (·.add (Merk.split n * 16))) (n - Merk.split n) (c - Merk.split n) P W (by omega) (by omega) (by omega) (by omega) (hr.drop (by omega) hnc) (by omega) (by omega) h)
    have HRT := ya (fun (W : World) (hb : Below w0.heap.size w0 W) => z9q N n (l.take (Merk.split n)) A (Merk.split n) (Merk.split n) W (by omega) (by omega) ((hr.take (by omega)).below hb) (Nat.le_refl _) (by omega) (hg.below hb))
    rw [hx, ← List.append_assoc]
    have hcast : ((i - Merk.split n : Nat) : Int) = (i : Int) - (Merk.split n : Int) := by omega
    rw [hcast] at HI
    have HPL : Hid (P.length + (Merk.incl nd em (l.drop (Merk.split n)) (i - Merk.split n)).length + 1 ≤ 3000000) := ya (by omega)
    clear hx ih hr hcm hl hpl hcast
    generalize Merk.root nd em (l.take (Merk.split n)) = X at *
    generalize Merk.incl nd em (l.drop (Merk.split n)) (i - Merk.split n) = Q at *
    generalize Merk.split n = k at *
    obtain ⟨v, hSv, hownv⟩ := hacc
    have hfn := hSv.fn.below (Below.refl w.heap.size w).drew
    have hacc2 : Acc w0 gp gt B 163 (fnV 125 [gp, gt]) P w.drew := Acc.below ⟨v, hSv, hownv⟩ (Below.refl _ _).drew
    have HACC := ya hacc2
    clear hSv hownv hacc2
    unfold z5m at HI ⊢
    unfold z62 at HRT
    have HPQ : Hid ((P ++ Q).length + 1 ≤ 3000000) := ya (by rw [List.length_append]; exact HPL.out)
    generalize P ++ Q = PQ at *
    generalize hF : fnV 125 [gp, gt] = F at *
    have HF := ya hF.symm
    clear hF
    have hik2 : ¬ (i : Int) < (k : Int) := by omega
    have hsub : 0 ≤ (i : Int) - (k : Int) ∧ (i : Int) - (k : Int) ≤ 1000000 := by omega
    have HW : Hid (wrap64 ((i : Int) - (k : Int)) = (i : Int) - (k : Int) ∧ IntKind.i64.wrap ((i : Int) - (k : Int)) = (i : Int) - (k : Int)) := ya ⟨by unfold wrap64; omega, wrap_small _ (by omega) (by omega)⟩
    go_enter Tryz.func125, Tryz.ntmps125
    go_upto_region 5 with (go_at_call 113; refine (HS.out _).mono ?_; rintro e w1 ⟨rfl, rfl⟩)
    rw [HF.out] at hfn
    refine z2j (S := fun W => Blk W gp 163 #[fnV 125 [gp, gt]]) 8 (by kernel_rfl) ?_
    refine WpT.tl 0 rfl (z47 rfl rfl rfl (by kernel_rfl) (fun W h => h.cell 0)) hfn ?_
    simp only [nrm]
    refine WpT.tk 1 hfn ?_
    simp only [nrm]
    refine WpT.tk 2 hfn ?_
    simp only [nrm]
    refine WpT.tk 3 hfn ?_
    simp only [nrm]
    refine WpT.tk 4 hfn ?_
    simp only [nrm]
    refine WpT.tk 5 hfn ?_
    simp only [nrm]
    refine WpT.tk 6 hfn ?_
    simp only [nrm]
    refine WpT.on 7 rfl (fun K hK => ?_)
    go_simp; (try simp only [HW.out.1, HW.out.2]); refine (HI.out _ HACC.out).mono ?_; rintro e w5 ⟨rfl, v5, hS5, hown5⟩; have hfn5 := hS5.fn; rw [HF.out] at hfn5
    refine hK _ _ hfn5 ?_; clear hK K; try simp only [nrm]
    refine WpT.done (by kernel_rfl) ?_ _
    skip
    clear hfn hfn5 HACC
    have hS := hS5.below (Below.refl w5.heap.size w5).drew
    replace hown5 := hown5.below (Below.refl w5.heap.size w5).drew
    clear hS5
    go_upto_region 6 with (fail)
    refine z2j (S := z48 w0 gp gt B 163 F v5) 8 (by kernel_rfl) ?_
    refine WpT.tl 0 rfl (z47 rfl rfl rfl (by kernel_rfl) (fun W h => h.var.cell 0)) hS ?_
    simp only [nrm]
    refine WpT.tk 1 hS ?_
    simp only [nrm]
    refine WpT.tk 2 hS ?_
    simp only [nrm]
    refine WpT.tk 3 hS ?_
    simp only [nrm]
    refine WpT.tk 4 hS ?_
    simp only [nrm]
    refine WpT.on 5 rfl (fun K hK => ?_)
    go_simp; refine (HRT.out _ hS.old).mono ?_; rintro e w6 ⟨rfl, hb6⟩; replace hS := hS.below hb6; replace hown5 := hown5.below hb6
    refine hK _ _ hS ?_; clear hK K; try simp only [nrm]
    refine WpT.on 6 rfl (fun K hK => ?_)
    refine (if_pos (by rfl)).mpr ?_; refine z85 rfl (by rfl) ?_; intro w7 g7 hg7 hr7 hb7; clear hg7; replace hS := hS.below hb7; replace hown5 := hown5.below hb7
    refine hK _ _ hS ?_; clear hK K; try simp only [nrm]
    refine WpT.on 7 rfl (fun K hK => ?_)
    refine (if_pos (by rfl)).mpr ?_; refine z84 rfl z6z (by rfl) hown5 (by rfl) (m := 1) hr7 (z75 [X]) (by have := HPQ.out; omega) hS.sz ?_; intro v8 w8 hown8 hg8 hb8; replace hS := hS.grown hpos hg8 hb8 (zb4 hown5); replace hown8 : yx w8 B v8 (PQ ++ [X]) := yx.app hown8
    refine hK _ _ hS ?_; clear hK K; try simp only [nrm]
    refine WpT.ta 8 rfl (fun K hK => ?_)
    refine (if_pos (by rfl)).mpr ?_; refine z7f (j := 0) (v := v8) (cs' := #[v8]) rfl (by kernel_rfl) (by rfl) (by rfl) (zb3 hown8) hS.var (by simp) (by simp) ?_; intro w9 ht9 b9
    refine hK _ _ ?_; clear hK K; try simp only [nrm]
    refine WpT.done (by kernel_rfl) ?_ _
    skip
    have hfin : Acc w0 gp gt B 163 F (PQ ++ [X]) w9 := ⟨v8, hS.turned hpos ht9 b9, ht9.own hown8 (zb2 hown8 hpos.tB)⟩
    clear hS hown8 hown5 ht9 b9
    go_wp2_with fail
    refine bodyPost_end (results_none rfl _ _ _) rfl ?_
    exact ⟨rfl, hfin⟩
def z34 (p : List Nat × Int) (w : World) (e : Ending) (w' : World) : Prop := ∃ v, e = .returned (.tuple #[v, .int .i64 p.2]) ∧ yx w' w.heap.size v p.1 ∧ Below w.heap.size w w'
theorem zqv {nd : Nat → Nat → Nat} {em : Nat} (N : Nds nd em) (l : List Nat) (i : Nat) (A : Option Addr) (n c : Nat) (w : World) (hn : n ≤ 1000000) (hi : i < n) (hr : RdD w A n l) (hnc : n ≤ c) (hcm : c ≤ maxLen) (hg : GCon w) :
  Calls Tryz.prog 83 #[.slice A n c, .int .i64 i] w (z34 (Merk.incl nd em l i, 0) w) := by
 have hmf : ∀ (fn : Fn) (first cap : Array Value) (w : World), (Instr.makeFunc fn first cap).run Tryz.prog w = .ok (.func fn first cap) w := fun _ _ _ _ => rfl
 have d0 : decide ((i : Int) < 0) = false := by simp
 have d1 : decide ((i : Int) ≥ (n : Int)) = false := by simp; omega
 have HI := ya (fun (gp gt B : Nat) (hpos : Pos w gp gt B) (W : World) (h : Acc w gp gt B 163 (fnV 125 [gp, gt]) [] W) => zqr N w gp gt B hpos hg n l i A n c [] W (Nat.le_refl _) hn (by simp; omega) hi hr hnc hcm h)
 simp only [List.nil_append] at HI
 clear hr hg hcm
 generalize Merk.incl nd em l i = P at *
 unfold z5m at HI
 unfold z34
 go_enter Tryz.func83, Tryz.ntmps83
 go_upto_region 5 with (fail)
 change Code.wp _ _ _ _ ((w.alloc (.cells #[.slice none 0 0] 37)).alloc (.cells #[.nilFunc] 163))
 obtain ⟨wa, hwa, hb0, q0, q1, hsz⟩ : ∃ wa : World, wa = (w.alloc (.cells #[.slice none 0 0] 37)).alloc (.cells #[.nilFunc] 163) ∧ Below w.heap.size w wa ∧ Blk wa w.heap.size 37 #[.slice none 0 0] ∧ Blk wa (w.heap.size + 1) 163 #[.nilFunc] ∧ wa.heap.size = w.heap.size + 2 :=
  ⟨_, rfl, ((Below.refl w.heap.size w).alloc (Nat.le_refl _) _).alloc (by simp) _, (Blk.new _ _ _).alloc _, Blk.new2 _ _ _ _, by simp⟩
 rw [← hwa]
 clear hwa
 obtain ⟨gt, hgt⟩ : ∃ g, g = w.heap.size := ⟨_, rfl⟩
 obtain ⟨gp, hgp⟩ : ∃ g, g = w.heap.size + 1 := ⟨_, rfl⟩
 rw [← hgt] at q0
 rw [← hgp] at q1
 have hpos : Pos w gp gt wa.heap.size := ⟨by omega, by omega, by omega, by omega, by omega⟩
 have HGP := ya hgp
 have HGT := ya hgt
 rw [← hgp, ← hgt]
 clear hsz hgp hgt
 go_upto_region 6 with ((with_reducible show sn); refine z1v (g := gp) (j := 0) (v := fnV 125 [gp, gt]) (cs' := #[fnV 125 [gp, gt]]) rfl rfl (by kernel_rfl) rfl rfl rfl q1 (by simp) (by simp) ?_; intro w2 ht2 b2)
 have hacc : Acc w gp gt wa.heap.size 163 (fnV 125 [gp, gt]) [] w2 :=
  ⟨.slice none 0 0, ⟨hb0.trans (ht2.below _ hpos.p), b2, ht2.blk q0 hpos.ne.symm, by rw [ht2.size]; exact Nat.le_refl _⟩, yx.nil _ _⟩
 have HI2 := ya (HI.out gp gt wa.heap.size hpos w2 hacc)
 have c2 := b2.cell 0
 simp only [List.getElem?_toArray, List.getElem?_cons_zero] at c2
 clear b2 ht2 q0 q1 hacc HI
 go_wp2_with fail
 refine HI2.out.mono ?_
 rintro e w5 ⟨rfl, v5, hS5, hown5⟩
 have c5 := hS5.var.cell 0
 simp only [List.getElem?_toArray, List.getElem?_cons_zero] at c5
 have hsz : w.heap.size ≤ wa.heap.size := hb0.size
 have hold := hS5.old
 clear hS5
 go_wp2_with fail
 refine bodyPost_ret (results_tmp2 rfl _ _ _) rfl ?_
 exact ⟨_, rfl, hown5.lower hsz, hold⟩
theorem zqw (i : Int) (A : Option Addr) (n c : Nat) (w : World) (h : i < 0 ∨ (n : Int) ≤ i) :
  Calls Tryz.prog 83 #[.slice A n c, .int .i64 i] w (z34 ([], 1) w) := by
 unfold z34
 by_cases h0 : i < 0
 ·have d0 : decide (i < 0) = true := by simpa using h0
  go_enter Tryz.func83, Tryz.ntmps83
  go_wp2_with fail
  refine bodyPost_ret (results_tmp2 rfl _ _ _) rfl ?_
  exact ⟨_, rfl, yx.nil _ _, Below.refl _ _⟩
 ·have d0 : decide (i < 0) = false := by simpa using h0
  have d1 : decide (i ≥ (n : Int)) = true := by simp; omega
  go_enter Tryz.func83, Tryz.ntmps83
  go_wp2_with fail
  refine bodyPost_ret (results_tmp2 rfl _ _ _) rfl ?_
  exact ⟨_, rfl, yx.nil _ _, Below.refl _ _⟩
theorem zqu {nd : Nat → Nat → Nat} {em : Nat} (N : Nds nd em) (l : List Nat) (i : Int) (A : Option Addr) (n c : Nat) (w : World) (hn : n ≤ 1000000) (hr : RdD w A n l) (hnc : n ≤ c) (hcm : c ≤ maxLen) (hg : GCon w) :
  Calls Tryz.prog 83 #[.slice A n c, .int .i64 i] w (z34 (z3h nd em l i) w) := by
 have hl := hr.len
 unfold z3h
 by_cases h : 0 ≤ i ∧ i < l.length
 ·rw [if_pos h]
  obtain ⟨k, rfl⟩ : ∃ k : Nat, i = k := ⟨i.toNat, by omega⟩
  exact zqv N l k A n c w hn (by omega) hr hnc hcm hg
 ·rw [if_neg h]
  exact zqw i A n c w (by omega)
theorem zp6 {nd : Nat → Nat → Nat} {em : Nat} (N : Nds nd em) (w0 : World) (gp gt B : Nat) (hpos : Pos w0 gp gt B) (hg : GCon w0) (K : Nat) : ∀ (l : List Nat) (i : Nat) (mk : Bool) (A : Option Addr) (n c : Nat) (P : List Nat) (w : World), n ≤ K → n ≤ 1000000 → P.length + n ≤ 2000000 → 1 ≤ i → i ≤ n → RdD w0 A n l → n ≤ c → c ≤ maxLen →
  Acc w0 gp gt B 164 (fnV 126 [gt, gp]) P w →
  Calls Tryz.prog 126 #[.slice A n c, .int .i64 i, .bool mk, .pointer (some ⟨gt, 0, none⟩), .pointer (some ⟨gp, 0, none⟩)] w (z5m w0 gp gt B 164 (fnV 126 [gt, gp]) (P ++ Merk.csy nd em l i mk)) := by
 induction K with
 | zero => intro l i mk A n c P w hK hn hP hi hi2; omega
 | succ K ih =>
  intro l i mk A n c P w hK hn hP hi hi2 hr hnc hcm hacc
  have hl := hr.len
  by_cases h1 : i = n
  ·have e1 : ((i : Int) == n) = true := by simp; omega
   cases mk with
   | true =>
    rw [Merk.csy_true nd em (by omega), List.append_nil]
    unfold z5m
    go_enter Tryz.func126, Tryz.ntmps126
    go_wp2_with fail
    refine bodyPost_ret (results_none rfl _ _ _) rfl ?_
    exact ⟨rfl, hacc⟩
   | false =>
    rw [Merk.csy_false nd em (by omega)]
    have HRT := ya (fun (W : World) (hb : Below w0.heap.size w0 W) => z9q N n l A n c W (Nat.le_refl _) (by omega) (hr.below hb) hnc hcm (hg.below hb))
    have HPQ : Hid (P.length + 1 ≤ 3000000) := ya (by omega)
    clear ih hr hcm hl
    generalize Merk.root nd em l = X at *
    obtain ⟨v, hSv, hownv⟩ := hacc
    have hS := hSv.below (Below.refl w.heap.size w).drew
    have hown5 := hownv.below (Below.refl w.heap.size w).drew
    clear hSv hownv
    unfold z62 at HRT
    unfold z5m
    generalize hF : fnV 126 [gt, gp] = F at *
    clear hF
    go_enter Tryz.func126, Tryz.ntmps126
    go_upto_region 2 with (fail)
    refine z2j (S := z48 w0 gp gt B 164 F v) 5 (by kernel_rfl) ?_
    refine WpT.tl 0 rfl (z47 rfl rfl rfl (by kernel_rfl) (fun W h => h.var.cell 0)) hS ?_
    simp only [nrm]
    refine WpT.tk 1 hS ?_
    simp only [nrm]
    refine WpT.on 2 rfl (fun K hK => ?_)
    go_simp; refine (HRT.out _ hS.old).mono ?_; rintro e w6 ⟨rfl, hb6⟩; replace hS := hS.below hb6; replace hown5 := hown5.below hb6
    refine hK _ _ hS ?_; clear hK K; try simp only [nrm]
    refine WpT.on 3 rfl (fun K hK => ?_)
    refine (if_pos (by rfl)).mpr ?_; refine z85 rfl (by rfl) ?_; intro w7 g7 hg7 hr7 hb7; clear hg7; replace hS := hS.below hb7; replace hown5 := hown5.below hb7
    refine hK _ _ hS ?_; clear hK K; try simp only [nrm]
    refine WpT.on 4 rfl (fun K hK => ?_)
    refine (if_pos (by rfl)).mpr ?_; refine z84 rfl z6z (by rfl) hown5 (by rfl) (m := 1) hr7 (z75 [X]) (by have := HPQ.out; omega) hS.sz ?_; intro v8 w8 hown8 hg8 hb8; replace hS := hS.grown hpos hg8 hb8 (zb4 hown5); replace hown8 : yx w8 B v8 (P ++ [X]) := yx.app hown8
    refine hK _ _ hS ?_; clear hK K; try simp only [nrm]
    refine WpT.ta 5 rfl (fun K hK => ?_)
    refine (if_pos (by rfl)).mpr ?_; refine z7f (j := 0) (v := v8) (cs' := #[v8]) rfl (by kernel_rfl) (by rfl) (by rfl) (zb3 hown8) hS.var (by simp) (by simp) ?_; intro w9 ht9 b9
    refine hK _ _ ?_; clear hK K; try simp only [nrm]
    refine WpT.done (by kernel_rfl) ?_ _
    skip
    have hfin : Acc w0 gp gt B 164 F (P ++ [X]) w9 := ⟨v8, hS.turned hpos ht9 b9, ht9.own hown8 (zb2 hown8 hpos.tB)⟩
    clear hS hown8 hown5 ht9 b9
    go_wp2_with fail
    refine bodyPost_ret (results_none rfl _ _ _) rfl ?_
    exact ⟨rfl, hfin⟩
  ·have hk1 := Merk.split_lt (n := n) (by omega)
   have hk0 := Merk.split_pos n
   have HS := ya (fun W => zb9 n W (by omega) (by omega))
   have hcm2 : c ≤ 9223372036854775807 := hcm
   have e1 : ((i : Int) == n) = false := by simp; omega
   by_cases hik : i ≤ Merk.split n
   ·
    have hx := Merk.csy_left nd em (l := l) (m := i) mk (by omega) (by omega) (by rw [hl]; exact hik)
    rw [hl] at hx
    have hpl := Merk.csy_len nd em _ (l.take (Merk.split n)) i mk (Nat.le_refl _) hi (by simp; omega)
    rw [List.length_take] at hpl
    have HI := ya (fun (W : World) (h : Acc w0 gp gt B 164 (fnV 126 [gt, gp]) P W) => ih (l.take (Merk.split n)) i mk A (Merk.split n) (Merk.split n) P W (by omega) (by omega) (by omega) hi hik (hr.take (by omega)) (Nat.le_refl _) (by omega) h)
    have HRT := ya (fun (W : World) (hb : Below w0.heap.size w0 W) => z9q N n (l.drop (Merk.split n)) (if c = Merk.split n then A else A.map (·.add (Merk.split n * 16))) (n - Merk.split n) (c - Merk.split n) W (by omega) (by omega) ((hr.drop (by omega) hnc).below hb) (by omega) (by omega) (hg.below hb))
    rw [hx, ← List.append_assoc]
    have HPL : Hid (P.length + (Merk.csy nd em (l.take (Merk.split n)) i mk).length + 1 ≤ 3000000) := ya (by omega)
    clear hx ih hr hcm hl hpl 
    generalize Merk.root nd em (l.drop (Merk.split n)) = X at *
    generalize Merk.csy nd em (l.take (Merk.split n)) i mk = Q at *
    generalize Merk.split n = k at *
    obtain ⟨v, hSv, hownv⟩ := hacc
    have hfn := hSv.fn.below (Below.refl w.heap.size w).drew
    have hacc2 : Acc w0 gp gt B 164 (fnV 126 [gt, gp]) P w.drew := Acc.below ⟨v, hSv, hownv⟩ (Below.refl _ _).drew
    have HACC := ya hacc2
    clear hSv hownv hacc2
    unfold z5m at HI ⊢
    unfold z62 at HRT
    have HPQ : Hid ((P ++ Q).length + 1 ≤ 3000000) := ya (by rw [List.length_append]; exact HPL.out)
    generalize P ++ Q = PQ at *
    generalize hF : fnV 126 [gt, gp] = F at *
    have HF := ya hF.symm
    clear hF
    have hik2 : (i : Int) ≤ (k : Int) := by omega
    go_enter Tryz.func126, Tryz.ntmps126
    go_upto_region 5 with (go_at_call 113; refine (HS.out _).mono ?_; rintro e w1 ⟨rfl, rfl⟩)
    rw [HF.out] at hfn
    refine z2j (S := fun W => Blk W gp 164 #[fnV 126 [gt, gp]]) 8 (by kernel_rfl) ?_
    refine WpT.tl 0 rfl (z47 rfl rfl rfl (by kernel_rfl) (fun W h => h.cell 0)) hfn ?_
    simp only [nrm]
    refine WpT.tk 1 hfn ?_
    simp only [nrm]
    refine WpT.tk 2 hfn ?_
    simp only [nrm]
    refine WpT.tk 3 hfn ?_
    simp only [nrm]
    refine WpT.tk 4 hfn ?_
    simp only [nrm]
    refine WpT.tk 5 hfn ?_
    simp only [nrm]
    refine WpT.tk 6 hfn ?_
    simp only [nrm]
    refine WpT.on 7 rfl (fun K hK => ?_)
    go_simp; refine (HI.out _ HACC.out).mono ?_; rintro e w5 ⟨rfl, v5, hS5, hown5⟩; have hfn5 := hS5.fn; rw [HF.out] at hfn5
    refine hK _ _ hfn5 ?_; clear hK K; try simp only [nrm]
    refine WpT.done (by kernel_rfl) ?_ _
    skip
    clear hfn hfn5 HACC
    have hS := hS5.below (Below.refl w5.heap.size w5).drew
    replace hown5 := hown5.below (Below.refl w5.heap.size w5).drew
    clear hS5
    go_upto_region 6 with (fail)
    refine z2j (S := z48 w0 gp gt B 164 F v5) 7 (by kernel_rfl) ?_
    refine WpT.tl 0 rfl (z47 rfl rfl rfl (by kernel_rfl) (fun W h => h.var.cell 0)) hS ?_
    simp only [nrm]
    refine WpT.tk 1 hS ?_
    simp only [nrm]
    refine WpT.tk 2 hS ?_
    simp only [nrm]
    refine WpT.tk 3 hS ?_
    simp only [nrm]
    refine WpT.on 4 rfl (fun K hK => ?_)
    go_simp; refine (HRT.out _ hS.old).mono ?_; rintro e w6 ⟨rfl, hb6⟩; replace hS := hS.below hb6; replace hown5 := hown5.below hb6
    refine hK _ _ hS ?_; clear hK K; try simp only [nrm]
    refine WpT.on 5 rfl (fun K hK => ?_)
    refine (if_pos (by rfl)).mpr ?_; refine z85 rfl (by rfl) ?_; intro w7 g7 hg7 hr7 hb7; clear hg7; replace hS := hS.below hb7; replace hown5 := hown5.below hb7
    refine hK _ _ hS ?_; clear hK K; try simp only [nrm]
    refine WpT.on 6 rfl (fun K hK => ?_)
    refine (if_pos (by rfl)).mpr ?_; refine z84 rfl z6z (by rfl) hown5 (by rfl) (m := 1) hr7 (z75 [X]) (by have := HPQ.out; omega) hS.sz ?_; intro v8 w8 hown8 hg8 hb8; replace hS := hS.grown hpos hg8 hb8 (zb4 hown5); replace hown8 : yx w8 B v8 (PQ ++ [X]) := yx.app hown8
    refine hK _ _ hS ?_; clear hK K; try simp only [nrm]
    refine WpT.ta 7 rfl (fun K hK => ?_)
    refine (if_pos (by rfl)).mpr ?_; refine z7f (j := 0) (v := v8) (cs' := #[v8]) rfl (by kernel_rfl) (by rfl) (by rfl) (zb3 hown8) hS.var (by simp) (by simp) ?_; intro w9 ht9 b9
    refine hK _ _ ?_; clear hK K; try simp only [nrm]
    refine WpT.done (by kernel_rfl) ?_ _
    skip
    have hfin : Acc w0 gp gt B 164 F (PQ ++ [X]) w9 := ⟨v8, hS.turned hpos ht9 b9, ht9.own hown8 (zb2 hown8 hpos.tB)⟩
    clear hS hown8 hown5 ht9 b9
    go_wp2_with fail
    refine bodyPost_end (results_none rfl _ _ _) rfl ?_
    exact ⟨rfl, hfin⟩
   ·
    have hx := Merk.csy_right nd em (l := l) (m := i) mk (by omega) (by omega) (by rw [hl]; exact hik)
    rw [hl] at hx
    have hpl := Merk.csy_len nd em _ (l.drop (Merk.split n)) (i - Merk.split n) false (Nat.le_refl _) (by omega) (by simp; omega)
    rw [List.length_drop] at hpl
    have HI := ya (fun (W : World) (h : Acc w0 gp gt B 164 (fnV 126 [gt, gp]) P W) => ih (l.drop (Merk.split n)) (i - Merk.split n) false (if c = Merk.split n then A else A.map (·.add (Merk.split n * 16))) (n - Merk.split n) (c - Merk.split n) P W (by omega) (by omega) (by omega) (by omega) (by omega) (hr.drop (by omega) hnc) (by omega) (by omega) h)
    have HRT := ya (fun (W : World) (hb : Below w0.heap.size w0 W) => z9q N n (l.take (Merk.split n)) A (Merk.split n) (Merk.split n) W (by omega) (by omega) ((hr.take (by omega)).below hb) (Nat.le_refl _) (by omega) (hg.below hb))
    rw [hx, ← List.append_assoc]
    have hcast : ((i - Merk.split n : Nat) : Int) = (i : Int) - (Merk.split n : Int) := by omega
    rw [hcast] at HI
    have HPL : Hid (P.length + (Merk.csy nd em (l.drop (Merk.split n)) (i - Merk.split n) false).length + 1 ≤ 3000000) := ya (by omega)
    clear hx ih hr hcm hl hpl hcast
    generalize Merk.root nd em (l.take (Merk.split n)) = X at *
    generalize Merk.csy nd em (l.drop (Merk.split n)) (i - Merk.split n) false = Q at *
    generalize Merk.split n = k at *
    obtain ⟨v, hSv, hownv⟩ := hacc
    have hfn := hSv.fn.below (Below.refl w.heap.size w).drew
    have hacc2 : Acc w0 gp gt B 164 (fnV 126 [gt, gp]) P w.drew := Acc.below ⟨v, hSv, hownv⟩ (Below.refl _ _).drew
    have HACC := ya hacc2
    clear hSv hownv hacc2
    unfold z5m at HI ⊢
    unfold z62 at HRT
    have HPQ : Hid ((P ++ Q).length + 1 ≤ 3000000) := ya (by rw [List.length_append]; exact HPL.out)
    generalize P ++ Q = PQ at *
    generalize hF : fnV 126 [gt, gp] = F at *
    have HF := ya hF.symm
    clear hF
    have hik2 : ¬ (i : Int) ≤ (k : Int) := by omega
    have hsub : 0 ≤ (i : Int) - (k : Int) ∧ (i : Int) - (k : Int) ≤ 1000000 := by omega
    have HW : Hid (wrap64 ((i : Int) - (k : Int)) = (i : Int) - (k : Int) ∧ IntKind.i64.wrap ((i : Int) - (k : Int)) = (i : Int) - (k : Int)) := ya ⟨by unfold wrap64; omega, wrap_small _ (by omega) (by omega)⟩
    go_enter Tryz.func126, Tryz.ntmps126
    go_upto_region 7 with (go_at_call 113; refine (HS.out _).mono ?_; rintro e w1 ⟨rfl, rfl⟩)
    rw [HF.out] at hfn
    refine z2j (S := fun W => Blk W gp 164 #[fnV 126 [gt, gp]]) 8 (by kernel_rfl) ?_
    refine WpT.tl 0 rfl (z47 rfl rfl rfl (by kernel_rfl) (fun W h => h.cell 0)) hfn ?_
    simp only [nrm]
    refine WpT.tk 1 hfn ?_
    simp only [nrm]
    refine WpT.tk 2 hfn ?_
    simp only [nrm]
    refine WpT.tk 3 hfn ?_
    simp only [nrm]
    refine WpT.tk 4 hfn ?_
    simp only [nrm]
    refine WpT.tk 5 hfn ?_
    simp only [nrm]
    refine WpT.tk 6 hfn ?_
    simp only [nrm]
    refine WpT.on 7 rfl (fun K hK => ?_)
    go_simp; (try simp only [HW.out.1, HW.out.2]); refine (HI.out _ HACC.out).mono ?_; rintro e w5 ⟨rfl, v5, hS5, hown5⟩; have hfn5 := hS5.fn; rw [HF.out] at hfn5
    refine hK _ _ hfn5 ?_; clear hK K; try simp only [nrm]
    refine WpT.done (by kernel_rfl) ?_ _
    skip
    clear hfn hfn5 HACC
    have hS := hS5.below (Below.refl w5.heap.size w5).drew
    replace hown5 := hown5.below (Below.refl w5.heap.size w5).drew
    clear hS5
    go_upto_region 8 with (fail)
    refine z2j (S := z48 w0 gp gt B 164 F v5) 8 (by kernel_rfl) ?_
    refine WpT.tl 0 rfl (z47 rfl rfl rfl (by kernel_rfl) (fun W h => h.var.cell 0)) hS ?_
    simp only [nrm]
    refine WpT.tk 1 hS ?_
    simp only [nrm]
    refine WpT.tk 2 hS ?_
    simp only [nrm]
    refine WpT.tk 3 hS ?_
    simp only [nrm]
    refine WpT.tk 4 hS ?_
    simp only [nrm]
    refine WpT.on 5 rfl (fun K hK => ?_)
    go_simp; refine (HRT.out _ hS.old).mono ?_; rintro e w6 ⟨rfl, hb6⟩; replace hS := hS.below hb6; replace hown5 := hown5.below hb6
    refine hK _ _ hS ?_; clear hK K; try simp only [nrm]
    refine WpT.on 6 rfl (fun K hK => ?_)
    refine (if_pos (by rfl)).mpr ?_; refine z85 rfl (by rfl) ?_; intro w7 g7 hg7 hr7 hb7; clear hg7; replace hS := hS.below hb7; replace hown5 := hown5.below hb7
    refine hK _ _ hS ?_; clear hK K; try simp only [nrm]
    refine WpT.on 7 rfl (fun K hK => ?_)
    refine (if_pos (by rfl)).mpr ?_; refine z84 rfl z6z (by rfl) hown5 (by rfl) (m := 1) hr7 (z75 [X]) (by have := HPQ.out; omega) hS.sz ?_; intro v8 w8 hown8 hg8 hb8; replace hS := hS.grown hpos hg8 hb8 (zb4 hown5); replace hown8 : yx w8 B v8 (PQ ++ [X]) := yx.app hown8
    refine hK _ _ hS ?_; clear hK K; try simp only [nrm]
    refine WpT.ta 8 rfl (fun K hK => ?_)
    refine (if_pos (by rfl)).mpr ?_; refine z7f (j := 0) (v := v8) (cs' := #[v8]) rfl (by kernel_rfl) (by rfl) (by rfl) (zb3 hown8) hS.var (by simp) (by simp) ?_; intro w9 ht9 b9
    refine hK _ _ ?_; clear hK K; try simp only [nrm]
    refine WpT.done (by kernel_rfl) ?_ _
    skip
    have hfin : Acc w0 gp gt B 164 F (PQ ++ [X]) w9 := ⟨v8, hS.turned hpos ht9 b9, ht9.own hown8 (zb2 hown8 hpos.tB)⟩
    clear hS hown8 hown5 ht9 b9
    go_wp2_with fail
    refine bodyPost_end (results_none rfl _ _ _) rfl ?_
    exact ⟨rfl, hfin⟩
theorem zp0 {nd : Nat → Nat → Nat} {em : Nat} (N : Nds nd em) (l : List Nat) (i : Nat) (A : Option Addr) (n c : Nat) (w : World) (hn : n ≤ 1000000) (hi : 1 ≤ i) (hi2 : i < n) (hr : RdD w A n l) (hnc : n ≤ c) (hcm : c ≤ maxLen) (hg : GCon w) :
  Calls Tryz.prog 84 #[.slice A n c, .int .i64 i] w (z34 (Merk.csy nd em l i true, 0) w) := by
 have hmf : ∀ (fn : Fn) (first cap : Array Value) (w : World), (Instr.makeFunc fn first cap).run Tryz.prog w = .ok (.func fn first cap) w := fun _ _ _ _ => rfl
 have d0 : decide ((i : Int) < 0) = false := by simp
 have d1 : decide ((i : Int) > (n : Int)) = false := by simp; omega
 have e0 : ((i : Int) == 0) = false := by simp; omega
 have e1 : ((i : Int) == (n : Int)) = false := by simp; omega
 have HI := ya (fun (gp gt B : Nat) (hpos : Pos w gp gt B) (W : World) (h : Acc w gp gt B 164 (fnV 126 [gt, gp]) [] W) => zp6 N w gp gt B hpos hg n l i true A n c [] W (Nat.le_refl _) hn (by simp; omega) hi (by omega) hr hnc hcm h)
 simp only [List.nil_append] at HI
 clear hr hg hcm
 generalize Merk.csy nd em l i true = P at *
 unfold z5m at HI
 unfold z34
 go_enter Tryz.func84, Tryz.ntmps84
 go_upto_region 7 with (fail)
 change Code.wp _ _ _ _ ((w.alloc (.cells #[.slice none 0 0] 37)).alloc (.cells #[.nilFunc] 164))
 obtain ⟨wa, hwa, hb0, q0, q1, hsz⟩ : ∃ wa : World, wa = (w.alloc (.cells #[.slice none 0 0] 37)).alloc (.cells #[.nilFunc] 164) ∧ Below w.heap.size w wa ∧ Blk wa w.heap.size 37 #[.slice none 0 0] ∧ Blk wa (w.heap.size + 1) 164 #[.nilFunc] ∧ wa.heap.size = w.heap.size + 2 :=
  ⟨_, rfl, ((Below.refl w.heap.size w).alloc (Nat.le_refl _) _).alloc (by simp) _, (Blk.new _ _ _).alloc _, Blk.new2 _ _ _ _, by simp⟩
 rw [← hwa]
 clear hwa
 obtain ⟨gt, hgt⟩ : ∃ g, g = w.heap.size := ⟨_, rfl⟩
 obtain ⟨gp, hgp⟩ : ∃ g, g = w.heap.size + 1 := ⟨_, rfl⟩
 rw [← hgt] at q0
 rw [← hgp] at q1
 have hpos : Pos w gp gt wa.heap.size := ⟨by omega, by omega, by omega, by omega, by omega⟩
 have HGP := ya hgp
 have HGT := ya hgt
 rw [← hgp, ← hgt]
 clear hsz hgp hgt
 go_upto_region 8 with ((with_reducible show sn); refine z1v (g := gp) (j := 0) (v := fnV 126 [gt, gp]) (cs' := #[fnV 126 [gt, gp]]) rfl rfl (by kernel_rfl) rfl rfl rfl q1 (by simp) (by simp) ?_; intro w2 ht2 b2)
 have hacc : Acc w gp gt wa.heap.size 164 (fnV 126 [gt, gp]) [] w2 :=
  ⟨.slice none 0 0, ⟨hb0.trans (ht2.below _ hpos.p), b2, ht2.blk q0 hpos.ne.symm, by rw [ht2.size]; exact Nat.le_refl _⟩, yx.nil _ _⟩
 have HI2 := ya (HI.out gp gt wa.heap.size hpos w2 hacc)
 have c2 := b2.cell 0
 simp only [List.getElem?_toArray, List.getElem?_cons_zero] at c2
 clear b2 ht2 q0 q1 hacc HI
 go_wp2_with fail
 refine HI2.out.mono ?_
 rintro e w5 ⟨rfl, v5, hS5, hown5⟩
 have c5 := hS5.var.cell 0
 simp only [List.getElem?_toArray, List.getElem?_cons_zero] at c5
 have hsz : w.heap.size ≤ wa.heap.size := hb0.size
 have hold := hS5.old
 clear hS5
 go_wp2_with fail
 refine bodyPost_ret (results_tmp2 rfl _ _ _) rfl ?_
 exact ⟨_, rfl, hown5.lower hsz, hold⟩
theorem zp1 (i : Int) (A : Option Addr) (n c : Nat) (w : World) (h : i < 0 ∨ (n : Int) < i) :
  Calls Tryz.prog 84 #[.slice A n c, .int .i64 i] w (z34 ([], 1) w) := by
 unfold z34
 by_cases h0 : i < 0
 ·have d0 : decide (i < 0) = true := by simpa using h0
  go_enter Tryz.func84, Tryz.ntmps84
  go_wp2_with fail
  refine bodyPost_ret (results_tmp2 rfl _ _ _) rfl ?_
  exact ⟨_, rfl, yx.nil _ _, Below.refl _ _⟩
 ·have d0 : decide (i < 0) = false := by simpa using h0
  have d1 : decide (i > (n : Int)) = true := by simp; omega
  go_enter Tryz.func84, Tryz.ntmps84
  go_wp2_with fail
  refine bodyPost_ret (results_tmp2 rfl _ _ _) rfl ?_
  exact ⟨_, rfl, yx.nil _ _, Below.refl _ _⟩
theorem zoz {nd : Nat → Nat → Nat} {em : Nat} (N : Nds nd em) (l : List Nat) (i : Int) (A : Option Addr) (n c : Nat) (w : World) (hn : n ≤ 1000000) (hr : RdD w A n l) (hnc : n ≤ c) (hcm : c ≤ maxLen) (hg : GCon w) :
  Calls Tryz.prog 84 #[.slice A n c, .int .i64 i] w (z34 (z5q nd em l i) w) := by
 have hl := hr.len
 unfold z5q
 by_cases h : 0 ≤ i ∧ i ≤ l.length
 ·rw [if_pos h]
  obtain ⟨k, rfl⟩ : ∃ k : Nat, i = k := ⟨i.toNat, by omega⟩
  by_cases h0 : (k : Int) = 0 ∨ (k : Int) = l.length
  ·rw [if_pos h0]
   have d0 : decide ((k : Int) < 0) = false := by simp
   have d1 : decide ((k : Int) > (n : Int)) = false := by simp; omega
   unfold z34
   clear hr hg
   by_cases h1 : k = 0
   ·have e0 : ((k : Int) == 0) = true := by simp; omega
    go_enter Tryz.func84, Tryz.ntmps84
    go_wp2_with fail
    refine bodyPost_ret (results_tmp2 rfl _ _ _) rfl ?_
    exact ⟨_, rfl, yx.nil _ _, Below.refl _ _⟩
   ·have e0 : ((k : Int) == 0) = false := by simp; omega
    have e1 : ((k : Int) == n) = true := by simp; omega
    go_enter Tryz.func84, Tryz.ntmps84
    go_wp2_with fail
    refine bodyPost_ret (results_tmp2 rfl _ _ _) rfl ?_
    exact ⟨_, rfl, yx.nil _ _, Below.refl _ _⟩
  ·rw [if_neg h0]
   exact zp0 N l k A n c w hn (by omega) (by omega) hr hnc hcm hg
 ·rw [if_neg h]
  exact zp1 i A n c w (by omega)
end
section
open Go.RowKit Exch Merk
structure z05 (ex : List Nat) (w w' : World) : Prop where
 os : w'.os = w.os
 tape : w'.tape = w.tape
 output : w'.output = w.output
 size : w.heap.size ≤ w'.heap.size
 block : ∀ k, k < w.heap.size → k ∉ ex → w'.heap[k]? = w.heap[k]?
section
variable {ex : List Nat} {w w1 w2 : World} {g : Nat}
theorem z05.refl (ex : List Nat) (w : World) : z05 ex w w := ⟨rfl, rfl, rfl, Nat.le_refl _, fun _ _ _ => rfl⟩
theorem z05.of_below (h : Below w.heap.size w w1) : z05 ex w w1 := ⟨h.os, h.tape, h.output, h.size, fun k hk _ => h.block k hk⟩
theorem z05.trans (h : z05 ex w w1) (k : z05 ex w1 w2) : z05 ex w w2 :=
 ⟨k.os.trans h.os, k.tape.trans h.tape, k.output.trans h.output, Nat.le_trans h.size k.size, fun i hi he => (k.block i (Nat.lt_of_lt_of_le hi h.size) he).trans (h.block i hi he)⟩
theorem z05.later (h : z05 ex w w1) (hb : Below w1.heap.size w1 w2) : z05 ex w w2 := h.trans (z05.of_below hb)
theorem z05.turned (h : z05 ex w w1) (ht : z0w g w1 w2) (hg : g ∈ ex ∨ w.heap.size ≤ g) : z05 ex w w2 :=
 ⟨(ht.below 0 (Nat.zero_le _)).os.trans h.os, (ht.below 0 (Nat.zero_le _)).tape.trans h.tape, (ht.below 0 (Nat.zero_le _)).output.trans h.output, by rw [ht.size]; exact h.size, fun k hk hne => (ht.far k (fun e => by
  rcases hg with hg | hg
  ·exact hne (e ▸ hg)
  ·omega)).trans (h.block k hk hne)⟩
theorem z05.blk (h : z05 ex w w1) {T : TypeId} {cs : Array Value} (hb : Blk w g T cs) (hg : g ∉ ex) : Blk w1 g T cs := (h.block g hb.lt hg).trans hb
theorem z05.below {B : Nat} (h : z05 ex w w1) (hB : B ≤ w.heap.size) (hex : ∀ g ∈ ex, B ≤ g) : Below B w w1 :=
 ⟨h.os, h.tape, h.output, h.size, fun k hk => h.block k (by omega) (fun e => by have := hex k e; omega)⟩
theorem z05.more (h : z05 ex w w1) {ex' : List Nat} (hs : ∀ g ∈ ex, g ∈ ex' ∨ w.heap.size ≤ g) : z05 ex' w w1 :=
 ⟨h.os, h.tape, h.output, h.size, fun k hk hne => h.block k hk (fun e => by rcases hs k e with h1 | h1; exact hne h1; omega)⟩
end
theorem RdD.zero (W : World) (A : Option Addr) : RdD W A 0 [] := ⟨rfl, ⟨rfl, fun k u hk => by simp [z3q] at hk⟩⟩
structure z2u (w0 : World) (gb : Nat) (p : Pth) (W : World) : Prop where
 old : Below w0.heap.size w0 W
 ge : w0.heap.size ≤ gb
 blk : ∃ A n c, RdD w0 A n p.l ∧ n ≤ 1000000 ∧ n ≤ c ∧ c ≤ maxLen ∧ Blk W gb 174 #[.slice A n c, .bool p.short]
theorem z2u.below {w0 W W' : World} {gb : Nat} {p : Pth} (h : z2u w0 gb p W) (hb : Below W.heap.size W W') : z2u w0 gb p W' := by
 obtain ⟨A, n, c, h1, h2, h3, h4, h5⟩ := h.blk
 exact ⟨yb h.old hb, h.ge, A, n, c, h1, h2, h3, h4, h5.below hb⟩
theorem z2u.grew {w0 W W' : World} {gb : Nat} {p : Pth} {ex : List Nat} (h : z2u w0 gb p W) (hg : z05 ex W W') (hne : gb ∉ ex) (hex : ∀ g ∈ ex, w0.heap.size ≤ g) : z2u w0 gb p W' := by
 obtain ⟨A, n, c, h1, h2, h3, h4, h5⟩ := h.blk
 exact ⟨h.old.trans (hg.below h.old.size hex), h.ge, A, n, c, h1, h2, h3, h4, hg.blk h5 hne⟩
def z8b (r : Nat × Pth) (w0 : World) (gb : Nat) (w : World) (e : Ending) (w' : World) : Prop := e = .returned (dgV r.1) ∧ z2u w0 gb r.2 w' ∧ z05 [gb] w w'
theorem zcc (p : Pth) (w0 : World) (gb : Nat) (w : World) (h : z2u w0 gb p w) : Calls Tryz.prog 135 #[.pointer (some ⟨gb, 0, none⟩)] w (z8b p.last w0 gb w) := by
 obtain ⟨l, s⟩ := p
 obtain ⟨hold, hge, A, n, c, hr, hn, hnc, hcm, hb⟩ := h
 have hcm2 : c ≤ 9223372036854775807 := hcm
 have hl := hr.len
 simp only at hl hr hb
 unfold z8b
 by_cases h0 : n = 0
 ·subst h0
  obtain rfl := List.eq_nil_of_length_eq_zero hl
  rw [zex]
  have HB := ya hb
  go_enter Tryz.func135, Tryz.ntmps135
  go_upto_region 1 with ((with_reducible show sl 2); refine z1o (cs := dgC 0) rfl rfl z0z ?_; intro w1 g1 hg1 q1 hb1 lt1; have HG1 := ya hg1; clear hg1)
  have b1 := HB.out.below hb1
  have c0 := b1.cell 0
  simp only [List.getElem?_toArray, List.getElem?_cons_zero] at c0
  go_upto_region 4 with ((with_reducible show sn); refine z1v (g := gb) (j := 1) (v := .bool true) (cs' := #[.slice A 0 c, .bool true]) rfl rfl (by kernel_rfl) rfl rfl rfl b1 (by simp) (by simp) ?_; intro w2 ht2 b2)
  have q2 := ht2.blk q1 (by have h1 := HB.out.lt; have h2 := HG1.out; omega)
  have ho := (yb hold hb1).trans (ht2.below _ hge)
  have hgr : z05 [gb] w w2 := (z05.of_below hb1).turned ht2 (.inl (by simp))
  clear b1 q1 ht2 c0 hb hr
  go_wp2_with ((with_reducible show sn); refine z0i (vs := dgC 0) rfl rfl rfl rfl q2 rfl (by rw [yf, yc]) (z0d _) ?_; intro w9 ht9 b9)
  have hne : g1 ≠ gb := by have h1 := HB.out.lt; have h2 := HG1.out; omega
  exact z0s rfl rfl rfl b9 yu (by rw [yf, yc]) ⟨rfl, ⟨ho.trans (ht9.below _ (by have := HG1.out; have := HB.out.lt; have := hold.size; omega)), hge, A, 0, c, RdD.zero _ _, by omega, by omega, hcm, ht9.blk b2 (fun e => hne e.symm)⟩, hgr.turned ht9 (.inr (by have := HG1.out; omega))⟩
 ·obtain ⟨m, hnm⟩ : ∃ m, n = m + 1 := ⟨n - 1, by omega⟩
  obtain ⟨l0, x, rfl⟩ : ∃ l0 x, l = l0 ++ [x] := by
   rcases List.eq_nil_or_concat l with rfl | ⟨l0, x, rfl⟩
   ·exfalso; simp at hl; omega
   ·exact ⟨l0, x, by simp⟩
  rw [z7t]
  have hm : l0.length = m := by simp at hl; omega
  have hx : (l0 ++ [x])[m]'(by simp; omega) = x := by simp [← hm]
  obtain ⟨ad, rfl, -⟩ := hr.elem (i := m) (by simp; omega)
  have HE : Hid (∀ W, Below w0.heap.size w0 W → ∀ j u, (bv (dg x))[j]? = some u → W.cell? ((ad.add (m * 16)).add j) = some u) := ya (fun W hb => by
   obtain ⟨ad2, e2, hc⟩ := (hr.below hb).elem (i := m) (by simp; omega)
   obtain rfl := Option.some.inj e2
   rwa [hx] at hc)
  have HT : Hid (RdD w0 (some ad) m l0) := ya (by have := hr.take (k := m) (by omega); rwa [List.take_append_of_le_length (by omega), List.take_of_length_le (by omega)] at this)
  have HB := ya hb
  have HO := ya hold
  have e0 : ((n : Int) == 0) = false := by simp; omega
  have e1 : (n : Int) - 1 = (m : Int) := by omega
  have e2 : 0 ≤ (m : Int) ∧ (m : Int) < (n : Int) := by omega
  have e3 : 0 ≤ (m : Int) ∧ (m : Int) ≤ (c : Int) := by omega
  have HNM := ya hnm
  clear hr hx hb hold hl hnm h0
  go_enter Tryz.func135, Tryz.ntmps135
  go_upto_region 1 with ((with_reducible show sl 2); refine z1o (cs := dgC 0) rfl rfl z0z ?_; intro w1 g1 hg1 q1 hb1 lt1; have HG1 := ya hg1; clear hg1)
  have b1 := HB.out.below hb1
  have c0 := b1.cell 0
  simp only [List.getElem?_toArray, List.getElem?_cons_zero] at c0
  have hcx := HE.out _ (yb HO.out hb1)
  go_upto_region 5 with (fail)
  go_upto_region 6 with (first
   | ((with_reducible show sl 23); refine yw (us := bv (dg x)) rfl rfl rfl yu (by rw [yf, z09]) hcx ?_)
   | ((with_reducible show sl 4); refine z1o (cs := dgC 0) rfl rfl z0z ?_; intro w2 g4 hg4 q4 hb2 lt4; have HG4 := ya hg4; clear hg4)
   | ((with_reducible show sn); refine z0i (vs := dgC x) rfl rfl rfl rfl q4 (by rw [yc, yc]) (by rw [yf, yc]) (z0d _) ?_; intro w3 ht3 b4))
  have b3 := ht3.blk (b1.below hb2) (by have := HG4.out; have := b1.lt; omega)
  have q3 := ht3.blk (q1.below hb2) (by have := HG4.out; omega)
  have hgr : z05 [gb] w w3 := ((z05.of_below hb1).later hb2).turned ht3 (.inr (by have := HG4.out; have := hb1.size; omega))
  have c3 := b3.cell 0
  simp only [List.getElem?_toArray, List.getElem?_cons_zero] at c3
  clear b1 q1 q4 c0 ht3 hcx HE
  go_upto_region 7 with ((with_reducible show sn); refine z1v (g := gb) (j := 0) (v := .slice (some ad) m m) (cs' := #[.slice (some ad) m m, .bool s]) rfl rfl (by kernel_rfl) rfl rfl rfl b3 (by simp) (by simp) ?_; intro w5 ht5 b5)
  have q5 := ht5.blk q3 (by have h1 := HB.out.lt; have h2 := HG1.out; omega)
  have b6 := ht5.blk b4 (by have h1 := HB.out.lt; have h2 := HG4.out; have := hb1.size; omega)
  replace hgr := hgr.turned ht5 (.inl (by simp))
  clear b3 q3 b4 ht5 c3
  go_wp2_with (first
   | ((with_reducible show sl 36); refine z1u rfl rfl rfl b6 yu (by rw [yf, yc]) ?_)
   | ((with_reducible show sn); refine z0i (vs := dgC x) rfl rfl rfl rfl q5 (by rw [yc, yc]) (by rw [yf, yc]) (z0d _) ?_; intro w9 ht9 b9))
  have hne : g1 ≠ gb := by have h1 := HB.out.lt; have h2 := HG1.out; omega
  have hgr9 := hgr.turned ht9 (.inr (by have := HG1.out; omega))
  exact z0s rfl rfl rfl b9 yu (by rw [yf, yc]) ⟨rfl, ⟨HO.out.trans (hgr9.below HO.out.size (by simp; exact hge)), hge, some ad, m, m, HT.out, by have := HNM.out; omega, Nat.le_refl _, by have := HNM.out; omega, ht9.blk b5 (fun e => hne e.symm)⟩, hgr9⟩
def z4p (b : Bool) (p : Pth) : Bool := b && (!p.short && decide (p.l = []))
def zgn (b : Bool) (p : Pth) (go : Nat) (u : FrameMode) (w : World) (e : Ending) (u' : FrameMode) (w' : World) : Prop := u' = u ∧ e = .returned (.tuple #[]) ∧ Blk w' go 4 #[.bool (z4p b p)] ∧ Below go w w' ∧ z05 [go] w w'
theorem zd9 (b : Bool) (p : Pth) (w0 : World) (gb go : Nat) (u : FrameMode) (w : World) (h : z2u w0 gb p w) (hb : Blk w go 4 #[.bool b]) :
  CallsD Tryz.prog 133 #[.pointer (some ⟨gb, 0, none⟩), .pointer (some ⟨go, 0, none⟩)] u w (zgn b p go u w) := by
 obtain ⟨l, s⟩ := p
 obtain ⟨hold, hge, A, n, c, hr, hn, hnc, hcm, hp⟩ := h
 have hl := hr.len
 simp only at hl hr hp
 have c0 := hp.cell 0
 have c1 := hp.cell 1
 have o0 := hb.cell 0
 simp only [List.getElem?_toArray, List.getElem?_cons_zero, List.getElem?_cons_succ] at c0 c1 o0
 have hz : ((n : Int) == 0) = decide (l = []) := by
  by_cases h : n = 0
  ·have : l = [] := List.eq_nil_of_length_eq_zero (by omega)
   simp [h, this]
  ·have : l ≠ [] := by intro e; subst e; simp at hl; omega
   simp [this]; omega
 unfold zgn z4p
 show CallsD _ _ _ _ _ fun e u' w' => u' = u ∧ e = .returned (.tuple #[]) ∧ Blk w' go 4 #[.bool (b && (!s && decide (l = [])))] ∧ Below go w w' ∧ z05 [go] w w'
 have hfin : ∀ (x : Bool) (w9 : World), z0w go w w9 → Blk w9 go 4 #[.bool x] → Below go w w9 ∧ z05 [go] w w9 := fun x w9 ht hb9 => ⟨ht.below _ (Nat.le_refl _), (z05.refl _ w).turned ht (.inl (by simp))⟩
 have HF := ya hfin
 clear hfin hr hp hold hge hl
 generalize decide (l = []) = z at *
 cases b with
 | false =>
  go_enter_d Tryz.func133, Tryz.ntmps133
  go_wp2_with ((with_reducible show sn); refine z1v (g := go) (j := 0) (v := .bool false) (cs' := #[.bool false]) rfl rfl (by kernel_rfl) rfl rfl rfl hb (by simp) (by simp) ?_; intro w9 ht9 b9)
  refine bodyPost_end (results_none rfl _ _ _) rfl ?_
  exact ⟨rfl, b9, HF.out _ _ ht9 b9⟩
 | true =>
  cases s with
  | true =>
   go_enter_d Tryz.func133, Tryz.ntmps133
   go_wp2_with ((with_reducible show sn); refine z1v (g := go) (j := 0) (v := .bool false) (cs' := #[.bool false]) rfl rfl (by kernel_rfl) rfl rfl rfl hb (by simp) (by simp) ?_; intro w9 ht9 b9)
   refine bodyPost_end (results_none rfl _ _ _) rfl ?_
   exact ⟨rfl, b9, HF.out _ _ ht9 b9⟩
  | false =>
   go_enter_d Tryz.func133, Tryz.ntmps133
   go_wp2_with ((with_reducible show sn); refine z1v (g := go) (j := 0) (v := .bool z) (cs' := #[.bool z]) rfl rfl (by kernel_rfl) rfl rfl rfl hb (by simp) (by simp) ?_; intro w9 ht9 b9)
   refine bodyPost_end (results_none rfl _ _ _) rfl ?_
   exact ⟨rfl, b9, HF.out _ _ ht9 b9⟩
theorem zom (nd : Nat → Nat → Nat) (leaf i n : Nat) (p : Pth) (h : ¬ 2 ≤ n) : z0n nd leaf i n p = (leaf, p) := by rw [z0n, dif_neg h]
theorem zok (nd : Nat → Nat → Nat) (leaf i n : Nat) (p : Pth) (h : 2 ≤ n) (hi : i < Merk.split n) : z0n nd leaf i n p = (nd (z0n nd leaf i (Merk.split n) p.last.2).1 p.last.1, (z0n nd leaf i (Merk.split n) p.last.2).2) := by rw [z0n, dif_pos h, if_pos hi]
theorem zon (nd : Nat → Nat → Nat) (leaf i n : Nat) (p : Pth) (h : 2 ≤ n) (hi : ¬ i < Merk.split n) : z0n nd leaf i n p = (nd p.last.1 (z0n nd leaf (i - Merk.split n) (n - Merk.split n) p.last.2).1, (z0n nd leaf (i - Merk.split n) (n - Merk.split n) p.last.2).2) := by rw [z0n, dif_pos h, if_neg hi]
theorem z5l {P : Program} {w : World} {o : Oper} {a : Act} {K : Act → World → Prop} {Q : Exit → Act → World → Prop} {t : TypeId} (ho : o.op = .alloc t) {cs : Array Value} (hz : ∀ w, (zeroValue t).run P w = .ok (.agg cs) w)
  (h : ∀ w' g, g = w.heap.size → Blk w' g t cs → Below w.heap.size w w' → g < w'.heap.size → K (a.put o.dst (.pointer (some ⟨g, 0, none⟩))) w') : o.wp P a w K Q :=
 z83 (z := .agg cs) ho (hz w) (h _ _ rfl (Blk.new _ _ _) ((Below.refl _ _).alloc (Nat.le_refl _) _) (Blk.new _ _ _).lt)
theorem z4h {P : Program} {ops : Array Oper} {S : World → Prop} {o : Oper} {a : Act} {t : TypeId} {x : Operand} {g : Nat} {T : TypeId} {cs : Array Value} (ho : o.op = .load t x) (hg : o.guard = none) (ha : a.eval x = .pointer (some ⟨g, 0, none⟩))
  (hu : (P.underlying t).map z0c = some true) (hi : (P.info? t).map (·.size) = some cs.size) (hc : ∀ W, S W → Blk W g T cs) : YieldsIf P ops S o (.agg cs) a := by
 refine .inl ⟨by simp [Region.wanted, hg], fun w hS => ?_⟩
 unfold execOp
 simp only [ho, ha, Instr.loadAt, Instr.sureAddr, Sem.run_bind, Sem.run_pure, Result.andThen_ok, z5h w g T t cs (hc w hS) hu hi]
structure CkS (w0 : World) (gl gv gb gf : Nat) (leaf : Nat) (tf : TypeId) (F : Value) (p : Pth) (W : World) : Prop where
 path : z2u w0 gb p W
 leaf : Blk W gl 25 (dgC leaf)
 pv : Blk W gv 172 #[.pointer (some ⟨gb, 0, none⟩)]
 fn : Blk W gf tf #[F]
structure z6o (w0 : World) (gl gv gb gf : Nat) : Prop where
 lb : gl ≠ gb
 vb : gv ≠ gb
 fb : gf ≠ gb
 l0 : w0.heap.size ≤ gl
 v0 : w0.heap.size ≤ gv
 b0 : w0.heap.size ≤ gb
 f0 : w0.heap.size ≤ gf
section
variable {w0 W W' : World} {gl gv gb gf leaf : Nat} {tf : TypeId} {F : Value} {p p' : Pth}
theorem CkS.below (h : CkS w0 gl gv gb gf leaf tf F p W) (hb : Below W.heap.size W W') : CkS w0 gl gv gb gf leaf tf F p W' :=
 ⟨h.path.below hb, h.leaf.below hb, h.pv.below hb, h.fn.below hb⟩
theorem CkS.went (h : CkS w0 gl gv gb gf leaf tf F p W) (hp : z6o w0 gl gv gb gf) (hg : z05 [gb] W W') (h2 : z2u w0 gb p' W') : CkS w0 gl gv gb gf leaf tf F p' W' :=
 ⟨h2, hg.blk h.leaf (by simpa using hp.lb), hg.blk h.pv (by simpa using hp.vb), hg.blk h.fn (by simpa using hp.fb)⟩
theorem CkS.other (h : CkS w0 gl gv gb gf leaf tf F p W) (hp : z6o w0 gl gv gb gf) {g : Nat} (ht : z0w g W W') (hl : gl ≠ g) (hv : gv ≠ g) (hb : gb ≠ g) (hf : gf ≠ g) (h0 : w0.heap.size ≤ g) : CkS w0 gl gv gb gf leaf tf F p W' :=
 ⟨h.path.grew ((z05.refl [g] W).turned ht (.inl (by simp))) (by simpa using hb) (by simpa using h0), ht.blk h.leaf hl, ht.blk h.pv hv, ht.blk h.fn hf⟩
theorem CkS.lt (h : CkS w0 gl gv gb gf leaf tf F p W) : gl < W.heap.size ∧ gv < W.heap.size ∧ gb < W.heap.size ∧ gf < W.heap.size := by
 obtain ⟨_, _, _, _, _, _, _, hb⟩ := h.path.blk
 exact ⟨h.leaf.lt, h.pv.lt, hb.lt, h.fn.lt⟩
end
def zad (r : Nat × Pth) (w0 : World) (gl gv gb gf leaf : Nat) (tf : TypeId) (F : Value) (w : World) (e : Ending) (w' : World) : Prop := e = .returned (dgV r.1) ∧ CkS w0 gl gv gb gf leaf tf F r.2 w' ∧ z05 [gb] w w'
abbrev F51 (gl gv gf : Nat) : Value := fnV 134 [gl, gv, gf]
theorem zoi {nd : Nat → Nat → Nat} {em : Nat} (N : Nds nd em) (w0 : World) (gl gv gb gf leaf : Nat) (hpos : z6o w0 gl gv gb gf) (hg : GCon w0) (K : Nat) : ∀ (i n : Nat) (p : Pth) (w : World), n ≤ K → n ≤ 1099511627776 → i < n →
  CkS w0 gl gv gb gf leaf 177 (F51 gl gv gf) p w →
  Calls Tryz.prog 134 #[.int .i64 i, .int .i64 n, .pointer (some ⟨gl, 0, none⟩), .pointer (some ⟨gv, 0, none⟩), .pointer (some ⟨gf, 0, none⟩)] w (zad (z0n nd leaf i n p) w0 gl gv gb gf leaf 177 (F51 gl gv gf) w) := by
 induction K with
 | zero => intro i n p w hK hn hi; omega
 | succ K ih =>
  intro i n p w hK hn hi hs
  by_cases h1 : n = 1
  ·subst h1
   rw [zom nd leaf i 1 p (by omega)]
   unfold zad
   show Calls _ _ _ _ fun e w' => e = .returned (dgV leaf) ∧ CkS w0 gl gv gb gf leaf 177 (F51 gl gv gf) p w' ∧ z05 [gb] w w'
   generalize hF : F51 gl gv gf = F at *
   clear hF
   have HS := ya hs
   clear hs
   go_enter Tryz.func134, Tryz.ntmps134
   go_upto_region 1 with ((with_reducible show sl 7); refine z1o (cs := dgC 0) rfl rfl z0z ?_; intro w1 g7 hg7 q7 hb1 lt7; have HG7 := ya hg7; clear hg7)
   have hs1 := HS.out.below hb1
   have ql := hs1.leaf
   go_wp2_with (first
    | ((with_reducible show sl 12); refine z1u rfl rfl rfl ql yu (by rw [yf, yc]) ?_)
    | ((with_reducible show sn); refine z0i (vs := dgC leaf) rfl rfl rfl rfl q7 (by rw [yc, yc]) (by rw [yf, yc]) (z0d _) ?_; intro w9 ht9 b9))
   have hlt := HS.out.lt
   have h7 := HG7.out
   exact z0s rfl rfl rfl b9 yu (by rw [yf, yc]) ⟨rfl, hs1.other hpos ht9 (by omega) (by omega) (by omega) (by omega) (by have := HS.out.path.old.size; omega), (z05.of_below hb1).turned ht9 (.inr (by omega))⟩
  ·have hk1 := Merk.split_lt (n := n) (by omega)
   have hk0 := Merk.split_pos n
   have HS := ya (fun W => zb9 n W (by omega) hn)
   have HSt := ya hs
   have HPOS := ya hpos
   have HG := ya hg
   have HL := ya (fun (q : Pth) (W : World) (h : z2u w0 gb q W) => zcc q w0 gb W h)
   have e1 : ((n : Int) == 1) = false := by simp; omega
   by_cases hik : i < Merk.split n
   ·
    rw [zok nd leaf i n p (by omega) hik]
    have HI := ya (fun (W : World) (h : CkS w0 gl gv gb gf leaf 177 (F51 gl gv gf) p.last.2 W) => ih i (Merk.split n) p.last.2 W (by omega) (by omega) hik h)
    have HN := ya (fun (W : World) (h : GCon W) => N.node (z0n nd leaf i (Merk.split n) p.last.2).1 p.last.1 W h)
    have HL1 := ya (HL.out p)
    unfold zad at HI ⊢
    unfold z8b at HL1
    show Calls _ _ _ _ fun e w' => e = .returned (dgV (nd (z0n nd leaf i (Merk.split n) p.last.2).1 p.last.1)) ∧ CkS w0 gl gv gb gf leaf 177 (F51 gl gv gf) (z0n nd leaf i (Merk.split n) p.last.2).2 w' ∧ z05 [gb] w w'
    clear ih hs hpos hg HL
    generalize nd (z0n nd leaf i (Merk.split n) p.last.2).1 p.last.1 = Z at *
    generalize (z0n nd leaf i (Merk.split n) p.last.2).1 = D at *
    generalize (z0n nd leaf i (Merk.split n) p.last.2).2 = Q at *
    generalize p.last.1 = X at *
    generalize p.last.2 = P1 at *
    generalize Merk.split n = k at *
    generalize hF : F51 gl gv gf = F at *
    have HF := ya hF.symm
    clear hF
    have hik2 : (i : Int) < (k : Int) := by omega
    go_enter Tryz.func134, Tryz.ntmps134
    go_upto_region 3 with ((with_reducible show sl 7); refine z1o (cs := dgC 0) rfl rfl z0z ?_; intro w1 g7 hg7 q7 hb1 lt7; have HG7 := ya hg7; clear hg7)
    go_cut [8, 9] from 13 to 16 (fun v8 v9 W => ∃ g9, v9 = .pointer (some ⟨g9, 0, none⟩) ∧ v8 = .int .i64 k ∧ CkS w0 gl gv gb gf leaf 177 F P1 W ∧ Blk W g7 25 (dgC 0) ∧ Blk W g9 25 (dgC X) ∧ z05 [gb] w W ∧ w.heap.size ≤ g9 ∧ g7 < g9)
    case first =>
     have hst := (HSt.out.below hb1).below (Below.refl w1.heap.size w1).drew
     have HLT := ya HSt.out.lt
     have hgr : z05 [gb] w w1.drew := (z05.of_below hb1).later (Below.refl w1.heap.size w1).drew
     replace q7 := q7.below (Below.refl w1.heap.size w1).drew
     have hpv := hst.pv
     refine z2j (S := fun W => Blk W gv 172 #[.pointer (some ⟨gb, 0, none⟩)]) 6 (by kernel_rfl) ?_
     refine WpT.tk 0 hpv ?_
     simp only [nrm]
     refine WpT.tl 2 rfl (z47 rfl rfl rfl (by kernel_rfl) (fun W h => h.cell 0)) hpv ?_
     simp only [nrm]
     refine WpT.fork (i := 1) (j := 4) rfl rfl (by kernel_rfl) (fun K hK => ?_) (fun K hK => ?_)
     ·go_simp; refine (HS.out _).mono ?_; rintro e wS ⟨rfl, rfl⟩
      refine hK _ _ hpv ?_; clear hK K; try simp only [nrm]
      refine WpT.fork (i := 3) (j := 4) rfl rfl (by kernel_rfl) (fun K hK => ?_) (fun K hK => ?_)
      ·go_simp; refine (HL1.out _ hst.path).mono ?_; rintro e wL ⟨rfl, hpl, hgl⟩; replace hst := hst.went HPOS.out hgl hpl; replace q7 := hgl.blk q7 (by have := HG7.out; have := HLT.out; simp; omega); (try replace q9 := hgl.blk q9 (by have := HG9.out; have := HLT.out; simp; omega)); replace hgr := hgr.trans hgl; replace hpv := hst.pv
       refine hK _ _ hpv ?_; clear hK K; try simp only [nrm]
       refine WpT.on 4 rfl (fun K hK => ?_)
       refine (if_pos (by rfl)).mpr ?_; refine z5l (cs := dgC 0) rfl z0z ?_; intro wN g9 hg9 q9 hbN lt9; have HG9 := ya (show w.heap.size ≤ g9 ∧ g7 < g9 from ⟨by have := hgr.size; omega, by have := q7.lt; omega⟩); clear hg9; replace hst := hst.below hbN; replace q7 := q7.below hbN; replace hgr := hgr.later hbN; replace hpv := hst.pv
       refine hK _ _ hpv ?_; clear hK K; try simp only [nrm]
       refine WpT.on 5 rfl (fun K hK => ?_)
       go_simp; (try go_bits)
       refine hK _ _ hpv ?_; clear hK K; try simp only [nrm]
       refine WpT.ta 6 rfl (fun K hK => ?_)
       refine (if_pos (by rfl)).mpr ?_; refine yl (vs := dgC X) rfl rfl rfl q9 (by rw [yc, yc]) (by rw [yf, yc]) (z0d _) ?_; intro wP htP bP
       refine hK _ _ ?_; clear hK K; try simp only [nrm]
       refine WpT.done (by kernel_rfl) ?_ _
       have h9 := HG9.out; have hlt := HLT.out; have h7 := HG7.out; have hw0 := HPOS.out.l0; replace hst := hst.other HPOS.out htP (by omega) (by omega) (by omega) (by omega) (by have := HSt.out.path.old.size; omega); replace q7 := htP.blk q7 (by omega); replace hgr := hgr.turned htP (.inr (by omega)); clear h7 hlt; go_wp2_with fail; go_meet; exact ⟨g9, rfl, rfl, hst, q7, bP, hgr, h9.1, h9.2⟩
      ·refine (if_pos (by rfl)).mpr ?_; refine z5l (cs := dgC 0) rfl z0z ?_; intro wN g9 hg9 q9 hbN lt9; have HG9 := ya (show w.heap.size ≤ g9 ∧ g7 < g9 from ⟨by have := hgr.size; omega, by have := q7.lt; omega⟩); clear hg9; replace hst := hst.below hbN; replace q7 := q7.below hbN; replace hgr := hgr.later hbN; replace hpv := hst.pv
       refine hK _ _ hpv ?_; clear hK K; try simp only [nrm]
       refine WpT.on 3 rfl (fun K hK => ?_)
       go_simp; refine (HL1.out _ hst.path).mono ?_; rintro e wL ⟨rfl, hpl, hgl⟩; replace hst := hst.went HPOS.out hgl hpl; replace q7 := hgl.blk q7 (by have := HG7.out; have := HLT.out; simp; omega); (try replace q9 := hgl.blk q9 (by have := HG9.out; have := HLT.out; simp; omega)); replace hgr := hgr.trans hgl; replace hpv := hst.pv
       refine hK _ _ hpv ?_; clear hK K; try simp only [nrm]
       refine WpT.on 5 rfl (fun K hK => ?_)
       go_simp; (try go_bits)
       refine hK _ _ hpv ?_; clear hK K; try simp only [nrm]
       refine WpT.ta 6 rfl (fun K hK => ?_)
       refine (if_pos (by rfl)).mpr ?_; refine yl (vs := dgC X) rfl rfl rfl q9 (by rw [yc, yc]) (by rw [yf, yc]) (z0d _) ?_; intro wP htP bP
       refine hK _ _ ?_; clear hK K; try simp only [nrm]
       refine WpT.done (by kernel_rfl) ?_ _
       have h9 := HG9.out; have hlt := HLT.out; have h7 := HG7.out; have hw0 := HPOS.out.l0; replace hst := hst.other HPOS.out htP (by omega) (by omega) (by omega) (by omega) (by have := HSt.out.path.old.size; omega); replace q7 := htP.blk q7 (by omega); replace hgr := hgr.turned htP (.inr (by omega)); clear h7 hlt; go_wp2_with fail; go_meet; exact ⟨g9, rfl, rfl, hst, q7, bP, hgr, h9.1, h9.2⟩
     ·refine (if_pos (by rfl)).mpr ?_; refine z5l (cs := dgC 0) rfl z0z ?_; intro wN g9 hg9 q9 hbN lt9; have HG9 := ya (show w.heap.size ≤ g9 ∧ g7 < g9 from ⟨by have := hgr.size; omega, by have := q7.lt; omega⟩); clear hg9; replace hst := hst.below hbN; replace q7 := q7.below hbN; replace hgr := hgr.later hbN; replace hpv := hst.pv
      refine hK _ _ hpv ?_; clear hK K; try simp only [nrm]
      refine WpT.on 1 rfl (fun K hK => ?_)
      go_simp; refine (HS.out _).mono ?_; rintro e wS ⟨rfl, rfl⟩
      refine hK _ _ hpv ?_; clear hK K; try simp only [nrm]
      refine WpT.on 3 rfl (fun K hK => ?_)
      go_simp; refine (HL1.out _ hst.path).mono ?_; rintro e wL ⟨rfl, hpl, hgl⟩; replace hst := hst.went HPOS.out hgl hpl; replace q7 := hgl.blk q7 (by have := HG7.out; have := HLT.out; simp; omega); (try replace q9 := hgl.blk q9 (by have := HG9.out; have := HLT.out; simp; omega)); replace hgr := hgr.trans hgl; replace hpv := hst.pv
      refine hK _ _ hpv ?_; clear hK K; try simp only [nrm]
      refine WpT.on 5 rfl (fun K hK => ?_)
      go_simp; (try go_bits)
      refine hK _ _ hpv ?_; clear hK K; try simp only [nrm]
      refine WpT.ta 6 rfl (fun K hK => ?_)
      refine (if_pos (by rfl)).mpr ?_; refine yl (vs := dgC X) rfl rfl rfl q9 (by rw [yc, yc]) (by rw [yf, yc]) (z0d _) ?_; intro wP htP bP
      refine hK _ _ ?_; clear hK K; try simp only [nrm]
      refine WpT.done (by kernel_rfl) ?_ _
      have h9 := HG9.out; have hlt := HLT.out; have h7 := HG7.out; have hw0 := HPOS.out.l0; replace hst := hst.other HPOS.out htP (by omega) (by omega) (by omega) (by omega) (by have := HSt.out.path.old.size; omega); replace q7 := htP.blk q7 (by omega); replace hgr := hgr.turned htP (.inr (by omega)); clear h7 hlt; go_wp2_with fail; go_meet; exact ⟨g9, rfl, rfl, hst, q7, bP, hgr, h9.1, h9.2⟩
    case rest =>
     obtain ⟨g9, rfl, rfl, hst, q7, q9, hgr, h90, h97⟩ := hcut
     have HH := ya (And.intro h90 h97)
     have HLT := ya HSt.out.lt
     clear h90 h97
     go_upto_region 5 with (fail)
     replace hst := hst.below (Below.refl _ _).drew
     replace q7 := q7.below (Below.refl _ _).drew
     replace q9 := q9.below (Below.refl _ _).drew
     replace hgr := hgr.later (Below.refl _ _).drew
     have hS : Blk _ gf 177 #[F] ∧ Blk _ g9 25 (dgC X) := ⟨hst.fn, q9⟩
     rw [HF.out] at hS
     refine z2j (S := fun W => Blk W gf 177 #[F51 gl gv gf] ∧ Blk W g9 25 (dgC X)) 6 (by kernel_rfl) ?_
     refine WpT.tl 0 rfl (z47 rfl rfl rfl (by kernel_rfl) (fun W h => h.1.cell 0)) hS ?_
     simp only [nrm]
     refine WpT.tk 1 hS ?_
     simp only [nrm]
     refine WpT.tk 2 hS ?_
     simp only [nrm]
     refine WpT.tl 4 rfl (z4h rfl rfl rfl yu (by rw [yf, yc]) (fun W h => h.2)) hS ?_
     simp only [nrm]
     refine WpT.on 3 rfl (fun K hK => ?_)
     go_simp; refine (HI.out _ hst).mono ?_; rintro e wC ⟨rfl, hst2, hgC⟩; replace q7 := hgC.blk q7 (by have := HG7.out; have := HLT.out; simp; omega); replace q9 := hgC.blk q9 (by have := HH.out; have := HLT.out; simp; omega); replace hgr := hgr.trans hgC; replace hst := hst2; clear hst2; replace hS := And.intro hst.fn q9; rw [HF.out] at hS
     refine hK _ _ hS ?_; clear hK K; try simp only [nrm]
     refine WpT.on 5 rfl (fun K hK => ?_)
     go_simp; refine (HN.out _ (HG.out.below hst.path.old)).mono ?_; rintro e wM ⟨rfl, hbM⟩; replace hst := hst.below hbM; replace q7 := q7.below hbM; replace q9 := q9.below hbM; replace hgr := hgr.later hbM; replace hS := And.intro hst.fn q9; rw [HF.out] at hS
     refine hK _ _ hS ?_; clear hK K; try simp only [nrm]
     refine WpT.ta 6 rfl (fun K hK => ?_)
     refine (if_pos (by rfl)).mpr ?_; refine yl (vs := dgC Z) rfl rfl rfl q7 (by rw [yc, yc]) (by rw [yf, yc]) (z0d _) ?_; intro w9 ht9 b9
     refine hK _ _ ?_; clear hK K; try simp only [nrm]
     refine WpT.done (by kernel_rfl) ?_ _
     skip
     have hlt := HLT.out
     have h7 := HG7.out
     have hfin := hst.other HPOS.out ht9 (by omega) (by omega) (by omega) (by omega) (by have := HSt.out.path.old.size; omega)
     replace hgr := hgr.turned ht9 (.inr (by omega))
     clear hS q9 q7 hst h7 hlt
     go_wp2_with fail
     exact z0s rfl rfl rfl b9 yu (by rw [yf, yc]) ⟨rfl, hfin, hgr⟩
   ·
    rw [zon nd leaf i n p (by omega) hik]
    have HI := ya (fun (W : World) (h : CkS w0 gl gv gb gf leaf 177 (F51 gl gv gf) p.last.2 W) => ih (i - Merk.split n) (n - Merk.split n) p.last.2 W (by omega) (by omega) (by omega) h)
    have HN := ya (fun (W : World) (h : GCon W) => N.node p.last.1 (z0n nd leaf (i - Merk.split n) (n - Merk.split n) p.last.2).1 W h)
    have HL1 := ya (HL.out p)
    unfold zad at HI ⊢
    unfold z8b at HL1
    show Calls _ _ _ _ fun e w' => e = .returned (dgV (nd p.last.1 (z0n nd leaf (i - Merk.split n) (n - Merk.split n) p.last.2).1)) ∧ CkS w0 gl gv gb gf leaf 177 (F51 gl gv gf) (z0n nd leaf (i - Merk.split n) (n - Merk.split n) p.last.2).2 w' ∧ z05 [gb] w w'
    have hc1 : ((i - Merk.split n : Nat) : Int) = (i : Int) - (Merk.split n : Int) := by omega
    have hc2 : ((n - Merk.split n : Nat) : Int) = (n : Int) - (Merk.split n : Int) := by omega
    rw [hc1, hc2] at HI
    clear hc1 hc2
    clear ih hs hpos hg HL
    generalize nd p.last.1 (z0n nd leaf (i - Merk.split n) (n - Merk.split n) p.last.2).1 = Z at *
    generalize (z0n nd leaf (i - Merk.split n) (n - Merk.split n) p.last.2).1 = D at *
    generalize (z0n nd leaf (i - Merk.split n) (n - Merk.split n) p.last.2).2 = Q at *
    generalize p.last.1 = X at *
    generalize p.last.2 = P1 at *
    generalize Merk.split n = k at *
    generalize hF : F51 gl gv gf = F at *
    have HF := ya hF.symm
    clear hF
    have hik2 : ¬ (i : Int) < (k : Int) := by omega
    have hsub : 0 ≤ (i : Int) - (k : Int) ∧ (i : Int) - (k : Int) ≤ 1099511627776 := by omega
    have hsub2 : 0 ≤ (n : Int) - (k : Int) ∧ (n : Int) - (k : Int) ≤ 1099511627776 := by omega
    have HW : Hid ((wrap64 ((i : Int) - (k : Int)) = (i : Int) - (k : Int) ∧ IntKind.i64.wrap ((i : Int) - (k : Int)) = (i : Int) - (k : Int)) ∧ (wrap64 ((n : Int) - (k : Int)) = (n : Int) - (k : Int) ∧ IntKind.i64.wrap ((n : Int) - (k : Int)) = (n : Int) - (k : Int))) := ya ⟨⟨by unfold wrap64; omega, wrap_small _ (by omega) (by omega)⟩, by unfold wrap64; omega, wrap_small _ (by omega) (by omega)⟩
    go_enter Tryz.func134, Tryz.ntmps134
    go_upto_region 3 with ((with_reducible show sl 7); refine z1o (cs := dgC 0) rfl rfl z0z ?_; intro w1 g7 hg7 q7 hb1 lt7; have HG7 := ya hg7; clear hg7)
    go_cut [8, 9] from 13 to 16 (fun v8 v9 W => ∃ g9, v9 = .pointer (some ⟨g9, 0, none⟩) ∧ v8 = .int .i64 k ∧ CkS w0 gl gv gb gf leaf 177 F P1 W ∧ Blk W g7 25 (dgC 0) ∧ Blk W g9 25 (dgC X) ∧ z05 [gb] w W ∧ w.heap.size ≤ g9 ∧ g7 < g9)
    case first =>
     have hst := (HSt.out.below hb1).below (Below.refl w1.heap.size w1).drew
     have HLT := ya HSt.out.lt
     have hgr : z05 [gb] w w1.drew := (z05.of_below hb1).later (Below.refl w1.heap.size w1).drew
     replace q7 := q7.below (Below.refl w1.heap.size w1).drew
     have hpv := hst.pv
     refine z2j (S := fun W => Blk W gv 172 #[.pointer (some ⟨gb, 0, none⟩)]) 6 (by kernel_rfl) ?_
     refine WpT.tk 0 hpv ?_
     simp only [nrm]
     refine WpT.tl 2 rfl (z47 rfl rfl rfl (by kernel_rfl) (fun W h => h.cell 0)) hpv ?_
     simp only [nrm]
     refine WpT.fork (i := 1) (j := 4) rfl rfl (by kernel_rfl) (fun K hK => ?_) (fun K hK => ?_)
     ·go_simp; refine (HS.out _).mono ?_; rintro e wS ⟨rfl, rfl⟩
      refine hK _ _ hpv ?_; clear hK K; try simp only [nrm]
      refine WpT.fork (i := 3) (j := 4) rfl rfl (by kernel_rfl) (fun K hK => ?_) (fun K hK => ?_)
      ·go_simp; refine (HL1.out _ hst.path).mono ?_; rintro e wL ⟨rfl, hpl, hgl⟩; replace hst := hst.went HPOS.out hgl hpl; replace q7 := hgl.blk q7 (by have := HG7.out; have := HLT.out; simp; omega); (try replace q9 := hgl.blk q9 (by have := HG9.out; have := HLT.out; simp; omega)); replace hgr := hgr.trans hgl; replace hpv := hst.pv
       refine hK _ _ hpv ?_; clear hK K; try simp only [nrm]
       refine WpT.on 4 rfl (fun K hK => ?_)
       refine (if_pos (by rfl)).mpr ?_; refine z5l (cs := dgC 0) rfl z0z ?_; intro wN g9 hg9 q9 hbN lt9; have HG9 := ya (show w.heap.size ≤ g9 ∧ g7 < g9 from ⟨by have := hgr.size; omega, by have := q7.lt; omega⟩); clear hg9; replace hst := hst.below hbN; replace q7 := q7.below hbN; replace hgr := hgr.later hbN; replace hpv := hst.pv
       refine hK _ _ hpv ?_; clear hK K; try simp only [nrm]
       refine WpT.on 5 rfl (fun K hK => ?_)
       go_simp; (try go_bits)
       refine hK _ _ hpv ?_; clear hK K; try simp only [nrm]
       refine WpT.ta 6 rfl (fun K hK => ?_)
       refine (if_pos (by rfl)).mpr ?_; refine yl (vs := dgC X) rfl rfl rfl q9 (by rw [yc, yc]) (by rw [yf, yc]) (z0d _) ?_; intro wP htP bP
       refine hK _ _ ?_; clear hK K; try simp only [nrm]
       refine WpT.done (by kernel_rfl) ?_ _
       have h9 := HG9.out; have hlt := HLT.out; have h7 := HG7.out; have hw0 := HPOS.out.l0; replace hst := hst.other HPOS.out htP (by omega) (by omega) (by omega) (by omega) (by have := HSt.out.path.old.size; omega); replace q7 := htP.blk q7 (by omega); replace hgr := hgr.turned htP (.inr (by omega)); clear h7 hlt; go_wp2_with fail; go_meet; exact ⟨g9, rfl, rfl, hst, q7, bP, hgr, h9.1, h9.2⟩
      ·refine (if_pos (by rfl)).mpr ?_; refine z5l (cs := dgC 0) rfl z0z ?_; intro wN g9 hg9 q9 hbN lt9; have HG9 := ya (show w.heap.size ≤ g9 ∧ g7 < g9 from ⟨by have := hgr.size; omega, by have := q7.lt; omega⟩); clear hg9; replace hst := hst.below hbN; replace q7 := q7.below hbN; replace hgr := hgr.later hbN; replace hpv := hst.pv
       refine hK _ _ hpv ?_; clear hK K; try simp only [nrm]
       refine WpT.on 3 rfl (fun K hK => ?_)
       go_simp; refine (HL1.out _ hst.path).mono ?_; rintro e wL ⟨rfl, hpl, hgl⟩; replace hst := hst.went HPOS.out hgl hpl; replace q7 := hgl.blk q7 (by have := HG7.out; have := HLT.out; simp; omega); (try replace q9 := hgl.blk q9 (by have := HG9.out; have := HLT.out; simp; omega)); replace hgr := hgr.trans hgl; replace hpv := hst.pv
       refine hK _ _ hpv ?_; clear hK K; try simp only [nrm]
       refine WpT.on 5 rfl (fun K hK => ?_)
       go_simp; (try go_bits)
       refine hK _ _ hpv ?_; clear hK K; try simp only [nrm]
       refine WpT.ta 6 rfl (fun K hK => ?_)
       refine (if_pos (by rfl)).mpr ?_; refine yl (vs := dgC X) rfl rfl rfl q9 (by rw [yc, yc]) (by rw [yf, yc]) (z0d _) ?_; intro wP htP bP
       refine hK _ _ ?_; clear hK K; try simp only [nrm]
       refine WpT.done (by kernel_rfl) ?_ _
       have h9 := HG9.out; have hlt := HLT.out; have h7 := HG7.out; have hw0 := HPOS.out.l0; replace hst := hst.other HPOS.out htP (by omega) (by omega) (by omega) (by omega) (by have := HSt.out.path.old.size; omega); replace q7 := htP.blk q7 (by omega); replace hgr := hgr.turned htP (.inr (by omega)); clear h7 hlt; go_wp2_with fail; go_meet; exact ⟨g9, rfl, rfl, hst, q7, bP, hgr, h9.1, h9.2⟩
     ·refine (if_pos (by rfl)).mpr ?_; refine z5l (cs := dgC 0) rfl z0z ?_; intro wN g9 hg9 q9 hbN lt9; have HG9 := ya (show w.heap.size ≤ g9 ∧ g7 < g9 from ⟨by have := hgr.size; omega, by have := q7.lt; omega⟩); clear hg9; replace hst := hst.below hbN; replace q7 := q7.below hbN; replace hgr := hgr.later hbN; replace hpv := hst.pv
      refine hK _ _ hpv ?_; clear hK K; try simp only [nrm]
      refine WpT.on 1 rfl (fun K hK => ?_)
      go_simp; refine (HS.out _).mono ?_; rintro e wS ⟨rfl, rfl⟩
      refine hK _ _ hpv ?_; clear hK K; try simp only [nrm]
      refine WpT.on 3 rfl (fun K hK => ?_)
      go_simp; refine (HL1.out _ hst.path).mono ?_; rintro e wL ⟨rfl, hpl, hgl⟩; replace hst := hst.went HPOS.out hgl hpl; replace q7 := hgl.blk q7 (by have := HG7.out; have := HLT.out; simp; omega); (try replace q9 := hgl.blk q9 (by have := HG9.out; have := HLT.out; simp; omega)); replace hgr := hgr.trans hgl; replace hpv := hst.pv
      refine hK _ _ hpv ?_; clear hK K; try simp only [nrm]
      refine WpT.on 5 rfl (fun K hK => ?_)
      go_simp; (try go_bits)
      refine hK _ _ hpv ?_; clear hK K; try simp only [nrm]
      refine WpT.ta 6 rfl (fun K hK => ?_)
      refine (if_pos (by rfl)).mpr ?_; refine yl (vs := dgC X) rfl rfl rfl q9 (by rw [yc, yc]) (by rw [yf, yc]) (z0d _) ?_; intro wP htP bP
      refine hK _ _ ?_; clear hK K; try simp only [nrm]
      refine WpT.done (by kernel_rfl) ?_ _
      have h9 := HG9.out; have hlt := HLT.out; have h7 := HG7.out; have hw0 := HPOS.out.l0; replace hst := hst.other HPOS.out htP (by omega) (by omega) (by omega) (by omega) (by have := HSt.out.path.old.size; omega); replace q7 := htP.blk q7 (by omega); replace hgr := hgr.turned htP (.inr (by omega)); clear h7 hlt; go_wp2_with fail; go_meet; exact ⟨g9, rfl, rfl, hst, q7, bP, hgr, h9.1, h9.2⟩
    case rest =>
     obtain ⟨g9, rfl, rfl, hst, q7, q9, hgr, h90, h97⟩ := hcut
     have HH := ya (And.intro h90 h97)
     have HLT := ya HSt.out.lt
     clear h90 h97
     go_upto_region 6 with (fail)
     replace hst := hst.below (Below.refl _ _).drew
     replace q7 := q7.below (Below.refl _ _).drew
     replace q9 := q9.below (Below.refl _ _).drew
     replace hgr := hgr.later (Below.refl _ _).drew
     have hS : Blk _ gf 177 #[F] ∧ Blk _ g9 25 (dgC X) := ⟨hst.fn, q9⟩
     rw [HF.out] at hS
     refine z2j (S := fun W => Blk W gf 177 #[F51 gl gv gf] ∧ Blk W g9 25 (dgC X)) 10 (by kernel_rfl) ?_
     refine WpT.tl 0 rfl (z4h rfl rfl rfl yu (by rw [yf, yc]) (fun W h => h.2)) hS ?_
     simp only [nrm]
     refine WpT.tl 1 rfl (z47 rfl rfl rfl (by kernel_rfl) (fun W h => h.1.cell 0)) hS ?_
     simp only [nrm]
     refine WpT.tk 2 hS ?_
     simp only [nrm]
     refine WpT.tk 3 hS ?_
     simp only [nrm]
     refine WpT.tk 4 hS ?_
     simp only [nrm]
     refine WpT.tk 5 hS ?_
     simp only [nrm]
     refine WpT.tk 6 hS ?_
     simp only [nrm]
     refine WpT.tk 7 hS ?_
     simp only [nrm]
     refine WpT.on 8 rfl (fun K hK => ?_)
     go_simp; (try simp only [HW.out.1.1, HW.out.1.2, HW.out.2.1, HW.out.2.2]); refine (HI.out _ hst).mono ?_; rintro e wC ⟨rfl, hst2, hgC⟩; replace q7 := hgC.blk q7 (by have := HG7.out; have := HLT.out; simp; omega); replace q9 := hgC.blk q9 (by have := HH.out; have := HLT.out; simp; omega); replace hgr := hgr.trans hgC; replace hst := hst2; clear hst2; replace hS := And.intro hst.fn q9; rw [HF.out] at hS
     refine hK _ _ hS ?_; clear hK K; try simp only [nrm]
     refine WpT.on 9 rfl (fun K hK => ?_)
     go_simp; refine (HN.out _ (HG.out.below hst.path.old)).mono ?_; rintro e wM ⟨rfl, hbM⟩; replace hst := hst.below hbM; replace q7 := q7.below hbM; replace q9 := q9.below hbM; replace hgr := hgr.later hbM; replace hS := And.intro hst.fn q9; rw [HF.out] at hS
     refine hK _ _ hS ?_; clear hK K; try simp only [nrm]
     refine WpT.ta 10 rfl (fun K hK => ?_)
     refine (if_pos (by rfl)).mpr ?_; refine yl (vs := dgC Z) rfl rfl rfl q7 (by rw [yc, yc]) (by rw [yf, yc]) (z0d _) ?_; intro w9 ht9 b9
     refine hK _ _ ?_; clear hK K; try simp only [nrm]
     refine WpT.done (by kernel_rfl) ?_ _
     skip
     have hlt := HLT.out
     have h7 := HG7.out
     have hfin := hst.other HPOS.out ht9 (by omega) (by omega) (by omega) (by omega) (by have := HSt.out.path.old.size; omega)
     replace hgr := hgr.turned ht9 (.inr (by omega))
     clear hS q9 q7 hst h7 hlt
     go_wp2_with fail
     exact z0s rfl rfl rfl b9 yu (by rw [yf, yc]) ⟨rfl, hfin, hgr⟩
end
end Go.Proofs.YtcapckngikekpaaGreatDoor
