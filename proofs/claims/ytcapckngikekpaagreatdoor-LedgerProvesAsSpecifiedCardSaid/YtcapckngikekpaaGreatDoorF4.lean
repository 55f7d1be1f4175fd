/-
  Known of the functions of this seat's laws, joined. Conditions: each theorem's own.
-/
import Derived.Test.YtcapckngikekpaaGreatDoorF3
import Derived.Test.YtcapckngikekpaaGreatDoorF0Nl
import Derived.Lib.TrailingZeros
import Derived.Laws.Bits128
namespace Go.Proofs.YtcapckngikekpaaGreatDoor
set_option linter.unusedSimpArgs false
set_option linter.unusedVariables false
set_option maxRecDepth 100000
set_option maxHeartbeats 16000000
namespace Merk
def z8i (x : Nat) : Nat := x % 2 + (x / 2 % 2 + (x / 4 % 2 + (x / 8 % 2 + (x / 16 % 2 + (x / 32 % 2 + (x / 64 % 2 + x / 128 % 2))))))
theorem zfa (a b M m : Nat) (hb : b < 256) (hm : m < 256) : (256 * a + b) &&& (256 * M + m) = 256 * (a &&& M) + (b &&& m) := by
  have h1 : (256 * a + b) / 2 ^ 8 = a := by omega
  have h2 : (256 * M + m) / 2 ^ 8 = M := by omega
  have h3 : (256 * a + b) % 2 ^ 8 = b := by omega
  have h4 : (256 * M + m) % 2 ^ 8 = m := by omega
  have e1 := @Nat.and_div_two_pow (256 * a + b) (256 * M + m) 8
  have e2 := @Nat.and_mod_two_pow (256 * a + b) (256 * M + m) 8
  rw [h1, h2] at e1
  rw [h3, h4] at e2
  have := Nat.div_add_mod ((256 * a + b) &&& (256 * M + m)) (2 ^ 8)
  rw [e1, e2] at this
  omega
theorem zsj : ∀ b : Fin 256, ∀ c : Fin 2, ((128 * c.val + b.val / 2) &&& 85) + (b.val &&& 85) < 256 ∧ (128 * c.val + b.val / 2) &&& 85 = (b.val / 2 &&& 85) := by decide +kernel
def p1 (b : Nat) : Nat := (b / 2 &&& 85) + (b &&& 85)
theorem zsk : ∀ b : Fin 256, ∀ c : Fin 4, ((64 * c.val + b.val / 4) &&& 51) = (b.val / 4 &&& 51) ∧ (b.val / 4 &&& 51) + (b.val &&& 51) < 256 := by decide +kernel
def p2 (b : Nat) : Nat := (b / 4 &&& 51) + (b &&& 51)
def p3 (b : Nat) : Nat := (b / 16 + b) &&& 15
theorem z9p : ∀ b : Fin 256, p3 (p2 (p1 b.val)) = z8i b.val ∧ p1 b.val < 256 ∧ p2 (p1 b.val) < 256 ∧ p2 (p1 b.val) % 16 ≤ 4 ∧ p2 (p1 b.val) / 16 ≤ 4 ∧ p3 (p2 (p1 b.val)) ≤ 8 := by decide +kernel
def cat : List Nat → Nat
  | [] => 0
  | b :: l => 256 * cat l + b
theorem zej (m : Nat) (hm : m < 256) : ∀ l : List Nat, (∀ b ∈ l, b < 256) → cat l &&& cat (l.map fun _ => m) = cat (l.map fun b => b &&& m)
  | [], _ => by simp [cat]
  | b :: l, h => by
    simp only [List.map_cons, cat]
    rw [zfa _ _ _ _ (h b (by simp)) hm, zej m hm l (fun x hx => h x (by simp [hx]))]
theorem zei (f g : Nat → Nat) : ∀ l : List Nat, cat (l.map f) + cat (l.map g) = cat (l.map fun b => f b + g b)
  | [] => rfl
  | b :: l => by simp only [List.map_cons, cat]; have := zei f g l; omega
theorem zem (k m : Nat) (hk : k ≤ 8) (hm : m < 256) (hc : ∀ b < 256, ∀ c < 2 ^ k, (2 ^ (8 - k) * c + b / 2 ^ k) &&& m = (b / 2 ^ k &&& m)) : ∀ l : List Nat, (∀ b ∈ l, b < 256) → (cat l / 2 ^ k) &&& cat (l.map fun _ => m) = cat (l.map fun b => b / 2 ^ k &&& m)
  | [], _ => by simp [cat]
  | b :: l, h => by
    simp only [List.map_cons, cat]
    have hb := h b (by simp)
    have hp : 2 ^ k * 2 ^ (8 - k) = 256 := by rw [← Nat.pow_add, show k + (8 - k) = 8 by omega]
    have hpos := Nat.pow_pos (n := k) (show 0 < 2 by omega)
    have hpos2 := Nat.pow_pos (n := 8 - k) (show 0 < 2 by omega)
    have e : (256 * cat l + b) / 2 ^ k = 256 * (cat l / 2 ^ k) + (2 ^ (8 - k) * (cat l % 2 ^ k) + b / 2 ^ k) := by
      have h1 := Nat.div_add_mod (cat l) (2 ^ k)
      have h2 : 256 * cat l + b = 2 ^ k * (256 * (cat l / 2 ^ k) + 2 ^ (8 - k) * (cat l % 2 ^ k)) + b := by
        conv => lhs; rw [← h1]
        rw [← hp]; grind
      rw [h2, Nat.mul_add_div hpos]; omega
    have hlt := Nat.mod_lt (cat l) hpos
    have hb2 : 2 ^ (8 - k) * (cat l % 2 ^ k) + b / 2 ^ k < 256 := by
      have h1 : 2 ^ (8 - k) * (cat l % 2 ^ k + 1) ≤ 2 ^ (8 - k) * 2 ^ k := Nat.mul_le_mul_left _ hlt
      have h3 : b / 2 ^ k < 2 ^ (8 - k) := by rw [Nat.div_lt_iff_lt_mul hpos, Nat.mul_comm, hp]; exact hb
      rw [Nat.mul_add, Nat.mul_one, Nat.mul_comm _ (2 ^ k), hp] at h1
      omega
    rw [e, zfa _ _ _ _ hb2 hm, hc b hb _ hlt, zem k m hk hm hc l (fun x hx => h x (by simp [hx]))]
def z2n (x : Nat) : List Nat := [x % 256, x / 256 % 256, x / 65536 % 256, x / 16777216 % 256, x / 4294967296 % 256, x / 1099511627776 % 256, x / 281474976710656 % 256, x / 72057594037927936 % 256]
theorem zo0 (x : Nat) (h : x < 18446744073709551616) : cat (z2n x) = x := by simp only [z2n, cat]; omega
theorem znz (x : Nat) : ∀ b ∈ z2n x, b < 256 := by simp [z2n]; omega
theorem zrd (f : Nat → Nat) {l : List Nat} (hf : ∀ b < 256, f b < 256) (h : ∀ b ∈ l, b < 256) : ∀ b ∈ l.map f, b < 256 := by
  intro b hb; obtain ⟨c, hc, rfl⟩ := List.mem_map.1 hb; exact hf c (h c hc)
theorem pop_a (l : List Nat) (h : ∀ b ∈ l, b < 256) : (cat l / 2 &&& cat (l.map fun _ => 85)) + (cat l &&& cat (l.map fun _ => 85)) = cat (l.map p1) := by
  have h1 := zem 1 85 (by omega) (by omega) (fun b hb c hc => (zsj ⟨b, hb⟩ ⟨c, hc⟩).2) l h
  rw [Nat.pow_one] at h1
  rw [h1, zej 85 (by omega) l h, zei]; rfl
theorem pop_b (l : List Nat) (h : ∀ b ∈ l, b < 256) : (cat l / 4 &&& cat (l.map fun _ => 51)) + (cat l &&& cat (l.map fun _ => 51)) = cat (l.map p2) := by
  have h1 := zem 2 51 (by omega) (by omega) (fun b hb c hc => (zsk ⟨b, hb⟩ ⟨c, hc⟩).1) l h
  rw [show 2 ^ 2 = 4 from rfl] at h1
  rw [h1, zej 51 (by omega) l h, zei]; rfl
theorem zh8 (n : Nat) : n &&& 15 = n % 16 := Nat.and_two_pow_sub_one_eq_mod n 4
theorem zkx : ∀ l : List Nat, (∀ b ∈ l, b % 16 ≤ 4 ∧ b / 16 ≤ 4) → (cat l / 16 + cat l) &&& cat (l.map fun _ => 15) = cat (l.map p3)
  | [], _ => by simp [cat]
  | b :: l, h => by
    obtain ⟨hb, hb2⟩ := h b (by simp)
    simp only [List.map_cons, cat]
    have hm : cat l % 16 ≤ 4 := by
      cases l with
      | nil => simp [cat]
      | cons c l => have := (h c (by simp)).1; simp only [cat]; omega
    have e : (256 * cat l + b) / 16 + (256 * cat l + b) = 256 * (cat l / 16 + cat l) + (16 * (cat l % 16) + b / 16 + b) := by omega
    rw [e, zfa _ _ _ _ (by omega) (by omega), zkx l (fun x hx => h x (by simp [hx]))]
    unfold p3
    rw [zh8, zh8]
    omega
theorem zek (a : Nat) (l : List Nat) (h : a < 256) : cat (a :: l) / 256 = cat l := by simp only [cat]; omega
theorem zel (a b : Nat) (l : List Nat) (h : a < 256) (h2 : b < 256) : cat (a :: b :: l) / 65536 = cat l := by
  rw [show 65536 = 256 * 256 from rfl, ← Nat.div_div_eq_div_mul, zek a _ h, zek b _ h2]
theorem zo1 (a b c d : Nat) (l : List Nat) (h : a < 256) (h2 : b < 256) (h3 : c < 256) (h4 : d < 256) : cat (a :: b :: c :: d :: l) / 4294967296 = cat l := by
  rw [show 4294967296 = 65536 * 65536 from rfl, ← Nat.div_div_eq_div_mul, zel a b _ h h2, zel c d _ h3 h4]
theorem pop_d (a b c d e f g h : Nat) (ha : a ≤ 8) (hb : b ≤ 8) (hc : c ≤ 8) (hd : d ≤ 8) (he : e ≤ 8) (hf : f ≤ 8) (hg : g ≤ 8) (hh : h ≤ 8) (x y z : Nat)
    (hx : x = cat [a, b, c, d, e, f, g, h] + cat [a, b, c, d, e, f, g, h] / 256) (hy : y = x + x / 65536) (hz : z = y + y / 4294967296) :
    z % 128 = a + b + c + d + e + f + g + h ∧ cat [a, b, c, d, e, f, g, h] < 1152921504606846976 ∧ x < 5000000000000000000 ∧ y < 5000000000000000000 ∧ z < 5000000000000000000 := by
  have e1 : x = cat [a + b, b + c, c + d, d + e, e + f, f + g, g + h, h] := by
    rw [hx, zek a _ (by omega)]; simp only [cat]; omega
  have e2 : y = cat [a + b + (c + d), b + c + (d + e), c + d + (e + f), d + e + (f + g), e + f + (g + h), f + g + h, g + h, h] := by
    rw [hy, e1, zel _ _ _ (by omega) (by omega)]; simp only [cat]; omega
  have e3 : z = cat [a + b + (c + d) + (e + f + (g + h)), b + c + (d + e) + (f + g + h), c + d + (e + f) + (g + h), d + e + (f + g) + h, e + f + (g + h), f + g + h, g + h, h] := by
    rw [hz, e2, zo1 _ _ _ _ _ (by omega) (by omega) (by omega) (by omega)]; simp only [cat]; omega
  clear hx hy hz
  refine ⟨?_, ?_, ?_, ?_, ?_⟩
  · rw [e3]
    have h1 : ∀ (p : Nat) (l : List Nat), p < 128 → cat (p :: l) % 128 = p := fun p l h => by simp only [cat]; omega
    rw [h1 _ _ (by omega)]; omega
  · simp only [cat]; omega
  · rw [e1]; simp only [cat]; omega
  · rw [e2]; simp only [cat]; omega
  · rw [e3]; simp only [cat]; omega
theorem pop_all (x x1 x2 x3 x4 x5 x6 : Nat) (h : x < 18446744073709551616) (h1 : x1 = (x / 2 &&& 6148914691236517205) + (x &&& 6148914691236517205)) (h2 : x2 = (x1 / 4 &&& 3689348814741910323) + (x1 &&& 3689348814741910323))
    (h3 : x3 = (x2 / 16 + x2) &&& 1085102592571150095) (h4 : x4 = x3 + x3 / 256) (h5 : x5 = x4 + x4 / 65536) (h6 : x6 = x5 + x5 / 4294967296) :
    x6 % 128 = ((z2n x).map z8i).foldr (· + ·) 0 ∧ x1 < 18446744073709551616 ∧ x2 < 18446744073709551616 ∧ x2 / 16 + x2 < 18446744073709551616 ∧ x3 < 1152921504606846976 ∧ x4 < 5000000000000000000 ∧ x5 < 5000000000000000000 ∧ x6 < 5000000000000000000 := by
  have hb := znz x
  have e1 := pop_a (z2n x) hb
  have k1 : cat ((z2n x).map fun _ => 85) = 6148914691236517205 := by simp [z2n, cat]
  have k2 : cat (((z2n x).map p1).map fun _ => 51) = 3689348814741910323 := by simp [z2n, cat]
  have k3 : cat ((((z2n x).map p1).map p2).map fun _ => 15) = 1085102592571150095 := by simp [z2n, cat]
  rw [zo0 x h, k1] at e1
  have f1 : x1 = cat ((z2n x).map p1) := h1.trans e1
  have hb1 := zrd p1 (fun b hb => (z9p ⟨b, hb⟩).2.1) hb
  have e2 := pop_b _ hb1
  rw [← f1, k2] at e2
  have f2 : x2 = cat (((z2n x).map p1).map p2) := h2.trans e2
  have e3 := zkx (((z2n x).map p1).map p2) (fun b hb0 => by
    obtain ⟨c, hc, rfl⟩ := List.mem_map.1 hb0
    obtain ⟨d, hd, rfl⟩ := List.mem_map.1 hc
    exact ⟨(z9p ⟨d, hb d hd⟩).2.2.2.1, (z9p ⟨d, hb d hd⟩).2.2.2.2.1⟩)
  rw [← f2, k3] at e3
  have f3 : x3 = cat ((((z2n x).map p1).map p2).map p3) := h3.trans e3
  have hmm : (((z2n x).map p1).map p2).map p3 = (z2n x).map z8i := by
    rw [List.map_map, List.map_map]
    refine List.map_congr_left fun d hd => (z9p ⟨d, hb d hd⟩).1
  rw [hmm] at f3
  have h8 : ∀ d ∈ z2n x, z8i d ≤ 8 := fun d hd => by rw [← (z9p ⟨d, hb d hd⟩).1]; exact (z9p ⟨d, hb d hd⟩).2.2.2.2.2
  simp only [z2n, List.map_cons, List.map_nil, List.mem_cons, List.not_mem_nil, or_false, forall_eq_or_imp, forall_eq] at h8 f3 ⊢
  obtain ⟨g0, g1, g2, g3, g4, g5, g6, g7⟩ := h8
  have fin := pop_d _ _ _ _ _ _ _ _ g0 g1 g2 g3 g4 g5 g6 g7 x4 x5 x6 (by rw [h4, f3]) h5 h6
  have l1 : x1 < 18446744073709551616 := by
    rw [h1]; have := Nat.and_le_right (n := x / 2) (m := 6148914691236517205); have := Nat.and_le_right (n := x) (m := 6148914691236517205); omega
  have l2 : x2 < 9223372036854775808 := by
    rw [h2]; have := Nat.and_le_right (n := x1 / 4) (m := 3689348814741910323); have := Nat.and_le_right (n := x1) (m := 3689348814741910323); omega
  refine ⟨?_, l1, by omega, by omega, by rw [f3]; exact fin.2.1, fin.2.2.1, fin.2.2.2.1, fin.2.2.2.2⟩
  rw [fin.1]
  simp only [List.foldr_cons, List.foldr_nil]
  omega
theorem zfo (q r : Nat) (h : r < 2) : ones (2 * q + r) = ones q + r := by
  rw [ones]
  by_cases h0 : 2 * q + r = 0
  · obtain rfl : q = 0 := by omega
    obtain rfl : r = 0 := by omega
    rw [if_pos rfl, ones, if_pos rfl]
  · rw [if_neg h0, show (2 * q + r) / 2 = q by omega]; omega
theorem zru (k : Nat) : ∀ q r, r < 2 ^ k → ones (2 ^ k * q + r) = ones q + ones r := by
  induction k with
  | zero => intro q r h; obtain rfl : r = 0 := by simp at h; exact h
            have e0 : ones 0 = 0 := by rw [ones, if_pos rfl]
            rw [e0, Nat.pow_zero, Nat.one_mul]; rfl
  | succ k ih =>
    intro q r h
    rw [Nat.pow_succ] at h
    rw [Nat.pow_succ, show 2 ^ k * 2 * q + r = 2 * (2 ^ k * q + r / 2) + r % 2 by rw [Nat.mul_right_comm]; omega, zfo _ _ (by omega), ih _ _ (by omega)]
    have := zfo (r / 2) (r % 2) (by omega)
    rw [show 2 * (r / 2) + r % 2 = r by omega] at this
    omega
theorem z7s (n : Nat) : ones n = n % 2 + ones (n / 2) := by
  have := zfo (n / 2) (n % 2) (by omega)
  rw [show 2 * (n / 2) + n % 2 = n by omega] at this
  omega
theorem zrs (n : Nat) (h : n < 256) : ones n = z8i n := by
  have e0 : ones 0 = 0 := by rw [ones, if_pos rfl]
  rw [z7s n, z7s (n / 2), Nat.div_div_eq_div_mul, z7s (n / (2 * 2)), Nat.div_div_eq_div_mul, z7s (n / (2 * 2 * 2)), Nat.div_div_eq_div_mul, z7s (n / (2 * 2 * 2 * 2)), Nat.div_div_eq_div_mul,
    z7s (n / (2 * 2 * 2 * 2 * 2)), Nat.div_div_eq_div_mul, z7s (n / (2 * 2 * 2 * 2 * 2 * 2)), Nat.div_div_eq_div_mul, z7s (n / (2 * 2 * 2 * 2 * 2 * 2 * 2)), Nat.div_div_eq_div_mul,
    Nat.div_eq_of_lt (a := n) (b := 2 * 2 * 2 * 2 * 2 * 2 * 2 * 2) (by omega), e0]
  rfl
theorem ones_sum (x : Nat) (h : x < 18446744073709551616) : ((z2n x).map z8i).foldr (· + ·) 0 = ones x := by
  have hs : ∀ y, ones y = z8i (y % 256) + ones (y / 256) := fun y => by
    have := zru 8 (y / 256) (y % 256) (by omega)
    rw [show 2 ^ 8 * (y / 256) + y % 256 = y by omega, zrs (y % 256) (by omega)] at this
    rw [this, Nat.add_comm]
  have e9 : ones 0 = 0 := by rw [ones, if_pos rfl]
  simp only [z2n, List.map_cons, List.map_nil, List.foldr_cons, List.foldr_nil]
  rw [hs x, hs (x / 256), Nat.div_div_eq_div_mul, hs (x / (256 * 256)), Nat.div_div_eq_div_mul, hs (x / (256 * 256 * 256)), Nat.div_div_eq_div_mul, hs (x / (256 * 256 * 256 * 256)), Nat.div_div_eq_div_mul,
    hs (x / (256 * 256 * 256 * 256 * 256)), Nat.div_div_eq_div_mul, hs (x / (256 * 256 * 256 * 256 * 256 * 256)), Nat.div_div_eq_div_mul, hs (x / (256 * 256 * 256 * 256 * 256 * 256 * 256)), Nat.div_div_eq_div_mul,
    Nat.div_eq_of_lt (a := x) (b := 256 * 256 * 256 * 256 * 256 * 256 * 256 * 256) (by omega), e9]
end Merk
section
open Go.RowKit Exch
theorem zr0 (x : Int) (w : World) (h0 : 0 ≤ x) (h1 : x ≤ 18446744073709551615) :
  Calls Tryz.prog 149 #[.int .u64 x] w fun e w' => e = .returned (.int .i64 (Lib.bitLen x.toNat)) ∧ w' = w := by
 go_enter Tryz.func149, Tryz.ntmps149
 go_wp2_with (go_at_call 162; refine (zqz x _ h0 h1).mono ?_; rintro e w' ⟨rfl, rfl⟩)
 go_ret
 exact ⟨rfl, rfl⟩
theorem zhh : ∀ (k x : Nat), x ≤ k → x ≠ 0 → x < 2 ^ 64 → Lib.bitLen x = x.log2 + 1
 | 0, x, h, h0, _ => by omega
 | k + 1, x, h, h0, hx => by
  rw [Lib.bitLen_half x h0 hx]
  by_cases h2 : x / 2 = 0
  ·obtain rfl : x = 1 := by omega
   decide
  ·rw [zhh k (x / 2) (by omega) h2 (by omega)]
   conv => rhs; rw [Nat.log2_def, if_pos (by omega)]
   omega
theorem zbj (n : Nat) (w : World) (h : 2 ≤ n) (h2 : n ≤ 1099511627776) : Calls Tryz.prog 113 #[.int .i64 n] w fun e w' => e = .returned (.int .i64 (Merk.split n : Nat)) ∧ w' = w := by
 have hL := ya (zhh _ (n - 1) (Nat.le_refl _) (by omega) (by omega))
 have hc : (0 : Int) ≤ (n : Int) - 1 ∧ (n : Int) - 1 ≤ 1099511627776 := by omega
 have HC : ∀ W, Calls Tryz.prog 149 #[.int .u64 ((n : Int) - 1)] W fun e w' => e = .returned (.int .i64 ((n - 1).log2 + 1 : Nat)) ∧ w' = W := fun W => by
  have := zr0 ((n : Int) - 1) W (by omega) (by omega)
  rw [show ((n : Int) - 1).toNat = n - 1 by omega, hL.out] at this
  exact this
 have HC2 := ya HC
 have hl : (n - 1).log2 < 41 := (Nat.log2_lt (by omega)).2 (by omega)
 show Calls _ _ _ _ fun e w' => e = .returned (.int .i64 ((2 ^ (n - 1).log2 : Nat) : Int)) ∧ w' = w
 clear HC
 generalize (n - 1).log2 = L at *
 go_enter Tryz.func113, Tryz.ntmps113
 go_wp2_with (go_at_call 149; refine (HC2.out _).mono ?_; rintro e w' ⟨rfl, rfl⟩)
 go_ret
 have hp : (2 : Nat) ^ L ≤ 2 ^ 40 := Nat.pow_le_pow_right (by omega) (by omega)
 have e : wrap64 (2 ^ L) = ((2 ^ L : Nat) : Int) := by
  rw [show ((2 : Int) ^ L) = ((2 ^ L : Nat) : Int) by norm_cast]
  have : ((2 ^ L : Nat) : Int) ≤ ((2 ^ 40 : Nat) : Int) := Int.ofNat_le.2 hp
  have h0 : 0 ≤ ((2 ^ L : Nat) : Int) := Int.natCast_nonneg _
  unfold wrap64; generalize ((2 ^ L : Nat) : Int) = Z at *; omega
 exact ⟨by show Ending.returned (Value.int IntKind.i64 (wrap64 (2 ^ L))) = _; rw [e], rfl⟩
theorem zrq (n : Nat) (w : World) (h : n < 18446744073709551616) : Calls Tryz.prog 164 #[.int .u64 n] w fun e w' => e = .returned (.int .i64 (Merk.ones n : Nat)) ∧ w' = w := by
 obtain ⟨x1, e1⟩ : ∃ x1, x1 = (n / 2 &&& 6148914691236517205) + (n &&& 6148914691236517205) := ⟨_, rfl⟩
 obtain ⟨x2, e2⟩ : ∃ x2, x2 = (x1 / 4 &&& 3689348814741910323) + (x1 &&& 3689348814741910323) := ⟨_, rfl⟩
 obtain ⟨x3, e3⟩ : ∃ x3, x3 = (x2 / 16 + x2) &&& 1085102592571150095 := ⟨_, rfl⟩
 obtain ⟨x4, e4⟩ : ∃ x4, x4 = x3 + x3 / 256 := ⟨_, rfl⟩
 obtain ⟨x5, e5⟩ : ∃ x5, x5 = x4 + x4 / 65536 := ⟨_, rfl⟩
 obtain ⟨x6, e6⟩ : ∃ x6, x6 = x5 + x5 / 4294967296 := ⟨_, rfl⟩
 obtain ⟨hp, l1, l2, l2', l3, l4, l5, l6⟩ := Merk.pop_all n x1 x2 x3 x4 x5 x6 h e1 e2 e3 e4 e5 e6
 rw [Merk.ones_sum n h] at hp
 have a1 : IntKind.u64.wrap (bits .and .u64 ((n : Int) / 2) 6148914691236517205 + bits .and .u64 (n : Int) 6148914691236517205) = (x1 : Int) := by
  have b1 := u64_and_nat (n / 2) 6148914691236517205 (by omega) (by omega)
  have b2 := u64_and_nat n 6148914691236517205 (by omega) (by omega)
  rw [show ((n : Int) / 2) = ((n / 2 : Nat) : Int) by omega]
  refine (congrArg IntKind.u64.wrap (congr (congrArg _ b1) b2)).trans ?_
  rw [IntKind.wrap_u64]; omega
 have a2 : IntKind.u64.wrap (bits .and .u64 ((x1 : Int) / 4) 3689348814741910323 + bits .and .u64 (x1 : Int) 3689348814741910323) = (x2 : Int) := by
  have b1 := u64_and_nat (x1 / 4) 3689348814741910323 (by omega) (by omega)
  have b2 := u64_and_nat x1 3689348814741910323 (by omega) (by omega)
  rw [show ((x1 : Int) / 4) = ((x1 / 4 : Nat) : Int) by omega]
  refine (congrArg IntKind.u64.wrap (congr (congrArg _ b1) b2)).trans ?_
  rw [IntKind.wrap_u64]; omega
 have a3 : bits .and .u64 (IntKind.u64.wrap ((x2 : Int) / 16 + (x2 : Int))) 1085102592571150095 = (x3 : Int) := by
  have b1 := u64_and_nat (x2 / 16 + x2) 1085102592571150095 (by omega) (by omega)
  rw [IntKind.wrap_u64, show ((x2 : Int) / 16 + (x2 : Int)) % 18446744073709551616 = ((x2 / 16 + x2 : Nat) : Int) by omega]
  rw [e3]; exact b1
 have a4 : IntKind.u64.wrap ((x3 : Int) + (x3 : Int) / 256) = (x4 : Int) := by rw [IntKind.wrap_u64]; omega
 have a5 : IntKind.u64.wrap ((x4 : Int) + (x4 : Int) / 65536) = (x5 : Int) := by rw [IntKind.wrap_u64]; omega
 have a6 : IntKind.u64.wrap ((x5 : Int) + (x5 : Int) / 4294967296) = (x6 : Int) := by rw [IntKind.wrap_u64]; omega
 have HA := ya (And.intro a1 (And.intro a2 (And.intro a3 (And.intro a4 (And.intro a5 a6)))))
 have HP := ya hp
 have HL := ya l6
 clear hp l1 l2 l2' l3 l4 l5 l6 e1 e2 e3 e4 e5 e6 a1 a2 a3 a4 a5 a6
 generalize Merk.ones n = R at *
 go_enter Tryz.func164, Tryz.ntmps164
 go_wp2
 obtain ⟨a1, a2, a3, a4, a5, a6⟩ := HA.out
 simp only [a1, a2, a3, a4, a5, a6]
 have l6 := HL.out
 have e : bits .and .i64 (wrap64 (x6 : Int)) 127 = (R : Int) := by
  rw [show wrap64 (x6 : Int) = (x6 : Int) by unfold wrap64; omega, i64_and127, ← HP.out]
  omega
 rw [e]
 go_ret
 exact ⟨rfl, rfl⟩
theorem zi2 : ∀ (f n : Nat), n + 1 < 2 ^ f → Lib.ctzFrom f (2 ^ f - 1 - n) = Merk.t1 n
 | 0, n, h => by simp at h
 | f + 1, n, h => by
  rw [Nat.pow_succ] at h ⊢
  have hp := Nat.pow_pos (n := f) (show 0 < 2 by omega)
  rw [Lib.ctzFrom, Merk.t1]
  by_cases h1 : n % 2 = 1
  ·rw [if_neg (by omega), if_pos h1, show (2 ^ f * 2 - 1 - n) / 2 = 2 ^ f - 1 - n / 2 by omega, zi2 f (n / 2) (by omega)]
  ·rw [if_pos (by omega), if_neg h1]
def GBru (w : World) : Prop := ∀ k, k < 64 → w.cell? ⟨1, k, none⟩ = some (.int .u8 (Lib.deBruijn64tab.getD k 0 : Nat))
theorem zvy (x : Nat) (w : World) (h : x < 18446744073709551616) (h0 : x ≠ 0) (hg : GBru w) : Calls Tryz.prog 152 #[.int .u64 x] w fun e w' => e = .returned (.int .i64 (Lib.ctz 64 x : Nat)) ∧ w' = w := by
 obtain ⟨hlow, hlt⟩ := Lib.lowest_bit 64 x h0 h
 obtain ⟨hj, ht⟩ := Lib.deBruijn64_at _ hlt
 have hk : Lib.ctz 64 x ≤ 63 := by omega
 obtain ⟨j, hJ⟩ : ∃ j, j = 2 ^ Lib.ctz 64 x * 285870213051353865 % 18446744073709551616 / 288230376151711744 := ⟨_, rfl⟩
 rw [← hJ] at hj ht
 have hc := hg j hj
 rw [ht] at hc
 have hneg : IntKind.u64.wrap (-(x : Int)) = ((2 ^ 64 - x : Nat) : Int) := by rw [IntKind.wrap_u64]; omega
 have hand : bits .and .u64 (x : Int) (IntKind.u64.wrap (-(x : Int))) = ((2 ^ Lib.ctz 64 x : Nat) : Int) := by
  rw [hneg, u64_and_nat _ _ h (by omega), hlow]
 have hidx : IntKind.u64.wrap (bits .and .u64 (x : Int) (IntKind.u64.wrap (-(x : Int))) * 285870213051353865) / 288230376151711744 = (j : Int) := by
  rw [hand, IntKind.wrap_u64, hJ]
  generalize 2 ^ Lib.ctz 64 x = Z
  omega
 have hj2 : 0 ≤ (j : Int) ∧ (j : Int) < 64 := by omega
 have hx : ((x : Int) == 0) = false := by simp; omega
 clear hlow hlt ht hJ hneg hand hg
 generalize Lib.ctz 64 x = R at *
 go_enter Tryz.func152, Tryz.ntmps152
 go_wp2
 go_ret
 exact ⟨rfl, rfl⟩
theorem zpb (n : Nat) (h : n ≤ 1099511627776) : Lib.ctz 64 (18446744073709551615 - n) = Merk.t1 n := by
 have := zi2 64 n (by omega)
 unfold Lib.ctz
 rw [if_neg (by omega)]
 exact this
theorem zrr (n : Nat) (w : World) (h : n < 18446744073709551616) : Calls Tryz.prog 150 #[.int .u64 n] w fun e w' => e = .returned (.int .i64 (Merk.ones n : Nat)) ∧ w' = w := by
 have HC := ya (fun W => zrq n W h)
 generalize Merk.ones n = R at *
 go_enter Tryz.func150, Tryz.ntmps150
 go_wp2_with (go_at_call 164; refine (HC.out _).mono ?_; rintro e w' ⟨rfl, rfl⟩)
 go_ret
 exact ⟨rfl, rfl⟩
theorem zvz (x : Nat) (w : World) (h : x < 18446744073709551616) (h0 : x ≠ 0) (hg : GBru w) : Calls Tryz.prog 116 #[.int .u64 x] w fun e w' => e = .returned (.int .i64 (Lib.ctz 64 x : Nat)) ∧ w' = w := by
 have HC := ya (zvy x w h h0 hg)
 clear hg
 generalize Lib.ctz 64 x = R at *
 go_enter Tryz.func116, Tryz.ntmps116
 go_wp2_with (go_at_call 152; refine HC.out.mono ?_; rintro e w' ⟨rfl, rfl⟩)
 go_ret
 exact ⟨rfl, rfl⟩
theorem GBru.lt {w : World} (h : GBru w) : 1 < w.heap.size := World.block_lt_of_cell? w _ (h 0 (by omega))
theorem GBru.below {w w' : World} (h : GBru w) (hb : Below w.heap.size w w') : GBru w' := fun k hk => (hb.cell (p := ⟨_, k, none⟩) h.lt).trans (h k hk)
/-! Peaks. -/
abbrev pkC (s : Int) (A : Option Addr) (n c : Nat) : Array Value := #[.int .i64 s, .slice A n c]
abbrev pkV (s : Int) (A : Option Addr) (n c : Nat) : Value := .agg (pkC s A n c)
theorem z3s : (Tryz.prog.underlying 39).map z0b = some true := by kernel_rfl
theorem z1o : (Tryz.prog.info? 39).map (·.size) = some 2 := by kernel_rfl
theorem z8q (W : World) : (zeroValue 39).run Tryz.prog W = .ok (pkV 0 none 0 0) W := by kernel_rfl
def z1g (s : Int) (n : Nat) : Bool := decide (0 ≤ s) && (decide (s ≤ 1099511627776) && decide (n = Merk.ones s.toNat))
theorem z9c (s : Int) (A : Option Addr) (n c : Nat) (w : World) : Calls Tryz.prog 115 #[pkV s A n c] w fun e w' => e = .returned (.bool (z1g s n)) ∧ Below w.heap.size w w' := by
 obtain ⟨wa, hwa, hb0, q0⟩ : ∃ wa : World, wa = w.alloc (.cells (pkC s A n c) 39) ∧ Below w.heap.size w wa ∧ Blk wa w.heap.size 39 (pkC s A n c) :=
  ⟨_, rfl, (Below.refl w.heap.size w).alloc (Nat.le_refl _) _, Blk.new _ _ _⟩
 have c0 : wa.cell? ⟨w.heap.size, 0, none⟩ = some (.int .i64 s) := q0.cell 0
 have c1 : wa.cell? ⟨w.heap.size, 1, none⟩ = some (.slice A n c) := q0.cell 1
 have HWA := ya hwa
 clear hwa q0
 have hS : Below wa.heap.size wa wa.drew := (Below.refl _ _).drew
 by_cases h0 : 0 ≤ s
 ·by_cases h1 : s ≤ 1099511627776
  ·obtain ⟨k, rfl⟩ : ∃ k : Nat, s = k := ⟨s.toNat, by omega⟩
   have hk : k ≤ 1099511627776 := by omega
   have hC := ya (fun W => zrr k W (by omega))
   have hf : z1g k n = decide (n = Merk.ones k) := by simp [z1g, h1]
   rw [hf]
   clear hf
   generalize Merk.ones k = R at *
   have hcv : wrap64 (k : Int) = (k : Int) := by unfold wrap64; omega
   have hcu : IntKind.u64.wrap (k : Int) = (k : Int) := by rw [IntKind.wrap_u64]; omega
   have g0 : decide (0 ≤ (k : Int)) = true := by simp
   have g1 : decide ((k : Int) ≤ 1099511627776) = true := by simp; omega
   have ge : ((n : Int) == (R : Int)) = decide (n = R) := by by_cases h : n = R <;> simp [h] <;> omega
   have HE := ya ge
   clear ge
   go_enter Tryz.func115, Tryz.ntmps115
   go_upto_region 1 with (fail)
   change Code.wp _ _ _ _ (w.alloc (.cells (pkC k A n c) 39))
   rw [← HWA.out]
   refine yq 18 (by kernel_rfl) ?_
   refine WpT.tk 0 hS ?_
   simp only [nrm]
   refine WpT.tl 1 rfl (yh rfl rfl rfl (by kernel_rfl) c0) hS ?_
   simp only [nrm]
   refine WpT.tk 2 hS ?_
   simp only [nrm]
   refine WpT.tk 3 hS ?_
   simp only [nrm]
   refine WpT.tk 4 hS ?_
   simp only [nrm]
   refine WpT.tl 5 rfl (z13 (by rfl) rfl rfl (by kernel_rfl) c0) hS ?_
   simp only [nrm]
   refine WpT.tk 6 hS ?_
   simp only [nrm]
   refine WpT.tk 7 hS ?_
   simp only [nrm]
   refine WpT.tk 8 hS ?_
   simp only [nrm]
   refine WpT.tk 9 hS ?_
   simp only [nrm]
   refine WpT.tl 10 rfl (z13 (by rfl) rfl rfl (by kernel_rfl) c1) hS ?_
   simp only [nrm]
   refine WpT.tk 11 hS ?_
   simp only [nrm]
   refine WpT.tk 12 hS ?_
   simp only [nrm]
   refine WpT.tl 13 rfl (z13 (by rfl) rfl rfl (by kernel_rfl) c0) hS ?_
   simp only [nrm]
   refine WpT.tk 14 hS ?_
   simp only [nrm]
   refine WpT.on 15 rfl (fun K hK => ?_)
   refine (if_pos (by rfl)).mpr ?_; go_simp; refine (hC.out _).mono ?_; rintro e w5 ⟨rfl, rfl⟩
   refine hK _ _ hS ?_; clear hK K; try simp only [nrm]
   refine WpT.tk 16 hS ?_
   simp only [nrm]
   refine WpT.tk 17 hS ?_
   simp only [nrm]
   refine WpT.ta 18 rfl (fun K hK => ?_)
   go_simp; (try go_bits)
   refine hK _ _ ?_; clear hK K; try simp only [nrm]
   refine WpT.done (by kernel_rfl) ?_ _
   go_wp2_with fail; go_ret; exact ⟨by first | rfl | (simp [HE.out]), yb hb0 hS⟩
  ·have hf : z1g s n = false := by simp [z1g, h1]
   rw [hf]
   have g0 : decide (0 ≤ s) = true := by simp [h0]
   have g1 : decide (s ≤ 1099511627776) = false := by simp; omega
   go_enter Tryz.func115, Tryz.ntmps115
   go_upto_region 1 with (fail)
   change Code.wp _ _ _ _ (w.alloc (.cells (pkC s A n c) 39))
   rw [← HWA.out]
   refine yq 18 (by kernel_rfl) ?_
   refine WpT.tk 0 hS ?_
   simp only [nrm]
   refine WpT.tl 1 rfl (yh rfl rfl rfl (by kernel_rfl) c0) hS ?_
   simp only [nrm]
   refine WpT.tk 2 hS ?_
   simp only [nrm]
   refine WpT.tk 3 hS ?_
   simp only [nrm]
   refine WpT.tk 4 hS ?_
   simp only [nrm]
   refine WpT.tl 5 rfl (z13 (by rfl) rfl rfl (by kernel_rfl) c0) hS ?_
   simp only [nrm]
   refine WpT.tk 6 hS ?_
   simp only [nrm]
   refine WpT.tk 7 hS ?_
   simp only [nrm]
   refine WpT.tk 8 hS ?_
   simp only [nrm]
   refine WpT.of [(9, 12), (10, 13), (11, 14)] (hS) ?_
   simp only [nrm]
   refine WpT.of [(12, 15), (13, 16), (14, 17)] (hS) ?_
   simp only [nrm]
   refine WpT.of [(15, 18), (16, 19)] (hS) ?_
   simp only [nrm]
   refine WpT.tk 17 hS ?_
   simp only [nrm]
   refine WpT.ta 18 rfl (fun K hK => ?_)
   go_simp; (try go_bits)
   refine hK _ _ ?_; clear hK K; try simp only [nrm]
   refine WpT.done (by kernel_rfl) ?_ _
   go_wp2_with fail; go_ret; exact ⟨rfl, yb hb0 hS⟩
 ·have hf : z1g s n = false := by simp [z1g, h0]
  rw [hf]
  have g0 : decide (0 ≤ s) = false := by simp [h0]
  go_enter Tryz.func115, Tryz.ntmps115
  go_upto_region 1 with (fail)
  change Code.wp _ _ _ _ (w.alloc (.cells (pkC s A n c) 39))
  rw [← HWA.out]
  refine yq 18 (by kernel_rfl) ?_
  refine WpT.tk 0 hS ?_
  simp only [nrm]
  refine WpT.tl 1 rfl (yh rfl rfl rfl (by kernel_rfl) c0) hS ?_
  simp only [nrm]
  refine WpT.tk 2 hS ?_
  simp only [nrm]
  refine WpT.tk 3 hS ?_
  simp only [nrm]
  refine WpT.of [(4, 7), (5, 8), (6, 9)] (hS) ?_
  simp only [nrm]
  refine WpT.tk 7 hS ?_
  simp only [nrm]
  refine WpT.tk 8 hS ?_
  simp only [nrm]
  refine WpT.of [(9, 12), (10, 13), (11, 14)] (hS) ?_
  simp only [nrm]
  refine WpT.of [(12, 15), (13, 16), (14, 17)] (hS) ?_
  simp only [nrm]
  refine WpT.of [(15, 18), (16, 19)] (hS) ?_
  simp only [nrm]
  refine WpT.tk 17 hS ?_
  simp only [nrm]
  refine WpT.ta 18 rfl (fun K hK => ?_)
  go_simp; (try go_bits)
  refine hK _ _ ?_; clear hK K; try simp only [nrm]
  refine WpT.done (by kernel_rfl) ?_ _
  go_wp2_with fail; go_ret; exact ⟨rfl, yb hb0 hS⟩
theorem zg4 (n : Nat) (w : World) (h : 2 ≤ n) (h2 : n ≤ 1099511627776) : Calls Tryz.prog 109 #[.int .i64 n] w fun e w' => e = .returned (.int .i64 (Merk.split n : Nat)) ∧ w' = w := by
 have HU := ya (fun (k j : Nat) (e : k = 2 ^ j) (h1 : k < n) (h2 : n ≤ 2 * k) => (by rw [e] at h1 h2 ⊢; exact Merk.split_is h1 h2 : Merk.split n = k))
 generalize Merk.split n = R at *
 go_enter Tryz.func109, Tryz.ntmps109
 go_wp2
 go_loop [3] (fun v => ∃ k j : Nat, v = .int .i64 k ∧ Hid (k = 2 ^ j) ∧ 1 ≤ k ∧ k < n) (fun v => n - (intOf v).toNat)
 case atStart => exact ⟨1, 0, rfl, ya rfl, by omega, by omega⟩
 case round =>
  obtain ⟨k, j, rfl, hj, h1, hk⟩ := hrel
  have hkb : k ≤ 1099511627776 := by omega
  by_cases hlt : 2 * k < n
  ·have hlt2 : 2 * (k : Int) < (n : Int) := by omega
   go_wp2
   exact ⟨⟨2 * k, j + 1, by go_num, ya (by have := hj.out; rw [Nat.pow_succ]; omega), by omega, hlt⟩, by simp [intOf]; omega⟩
  ·have hlt2 : ¬ 2 * (k : Int) < (n : Int) := by omega
   have e := HU.out k j hj.out hk (by omega)
   go_wp2
   go_ret
   exact ⟨rfl, rfl⟩
theorem zpg (l : List Nat) (k : Nat) (h : k ≤ l.length) : (z2b l).take (k * 16) = z2b (l.take k) := zck z03 l k h
theorem zpf (l : List Nat) (k : Nat) (h : k ≤ l.length) : (z2b l).drop (k * 16) = z2b (l.drop k) := zf3 z03 l k h
theorem RdD.take {W : World} {A : Option Addr} {n : Nat} {l : List Nat} (h : RdD W A n l) {k : Nat} (hk : k ≤ n) : RdD W A k (l.take k) := by
 have hl := h.len
 refine ⟨by rw [List.length_take]; omega, ?_⟩
 have := h.rd.take (k := k * 16) (by omega)
 rwa [zpg l k (by omega)] at this
theorem RdD.drop {W : World} {A : Option Addr} {n c : Nat} {l : List Nat} (h : RdD W A n l) {k : Nat} (hk : k ≤ n) (hc : n ≤ c) : RdD W (if c = k then A else A.map (·.add (k * 16))) (n - k) (l.drop k) := by
 have hl := h.len
 refine ⟨by rw [List.length_drop]; omega, ?_⟩
 have h2 := h.rd.cut (cap := c * 16) (k := k * 16) (by omega) (by omega)
 have e : (c * 16 = k * 16) ↔ (c = k) := by omega
 simp only [e] at h2
 rw [← Nat.sub_mul, zpf l k (by omega)] at h2
 exact h2
def z2z (x : Nat) (w : World) (e : Ending) (w' : World) : Prop := e = .returned (dgV x) ∧ Below w.heap.size w w'
theorem z9t {nd : Nat → Nat → Nat} {em : Nat} (N : Nds nd em) (K : Nat) : ∀ (l : List Nat) (A : Option Addr) (n c : Nat) (w : World), n ≤ K → n ≤ 1000000 → RdD w A n l → n ≤ c → c ≤ maxLen → GCon w →
  Calls Tryz.prog 67 #[.slice A n c] w (z2z (Merk.root nd em l) w) := by
 induction K with
 | zero =>
  intro l A n c w hK hn hr hnc hcm hg
  obtain rfl : n = 0 := by omega
  obtain rfl := List.eq_nil_of_length_eq_zero hr.len
  rw [Merk.root_nil]
  have HE := ya N.empty
  have HG := ya hg
  clear hg hr
  unfold z2z
  go_enter Tryz.func67, Tryz.ntmps67
  go_upto_region 1 with ((with_reducible show wpList _ _ _ _ _ _); refine z0t (cs := dgC 0) rfl rfl z0n ?_; intro w0 g0 hg0 q0 hb0 lt0; have HG0 := ya hg0; clear hg0)
  go_wp2_with fail
  refine (HE.out _ (HG.out.below hb0)).mono ?_
  rintro e w2 ⟨rfl, hb2⟩
  have q2 := q0.below hb2
  go_wp2_with ((with_reducible show wpList _ _ _ _ _ _); refine z01 (vs := dgC em) rfl rfl rfl rfl q2 (by rw [yc, yc]) (by rw [yf, yc]) (z0c _) ?_; intro w9 ht9 b9)
  exact z02 rfl rfl rfl b9 yn (by rw [yf, yc]) ⟨rfl, (yb hb0 hb2).trans (ht9.below _ (by have := HG0.out; omega))⟩
 | succ K ih =>
  intro l A n c w hK hn hr hnc hcm hg
  by_cases h0 : n = 0
  ·exact ih l A n c w (by omega) hn hr hnc hcm hg
  by_cases h1 : n = 1
  ·subst h1
   match l, hr.len with
   | [x], _ =>
   rw [Merk.root_one]
   obtain ⟨ad, rfl, _⟩ := hr.elem (i := 0) (by simp)
   have HR := ya hr
   clear hr hg
   unfold z2z
   go_enter Tryz.func67, Tryz.ntmps67
   go_upto_region 1 with ((with_reducible show wpList _ _ _ _ _ _); refine z0t (cs := dgC 0) rfl rfl z0n ?_; intro w0 g0 hg0 q0 hb0 lt0; have HG0 := ya hg0; clear hg0)
   obtain ⟨ad2, e2, hc⟩ := (HR.out.below hb0).elem (i := 0) (by simp)
   obtain rfl := Option.some.inj e2
   rw [Nat.zero_mul] at hc
   simp only [List.getElem_cons_zero] at hc
   clear e2
   go_wp2_with (first
    | ((with_reducible show wpList _ _ _ _ _ _); refine yj (us := bv (dg x)) rfl rfl rfl yn (by rw [yf, z03]) hc ?_)
    | ((with_reducible show wpList _ _ _ _ _ _); refine z01 (vs := dgC x) rfl rfl rfl rfl q0 (by rw [yc, yc]) (by rw [yf, yc]) (z0c _) ?_; intro w9 ht9 b9))
   exact z02 rfl rfl rfl b9 yn (by rw [yf, yc]) ⟨rfl, hb0.trans (ht9.below _ (by have := HG0.out; omega))⟩
  ·have hk1 := Merk.split_lt (n := n) (by omega)
   have hk0 := Merk.split_pos n
   have hl := hr.len
   have HS := ya (fun W => zbj n W (by omega) (by omega))
   have hx : Merk.root nd em l = nd (Merk.root nd em (l.take (Merk.split n))) (Merk.root nd em (l.drop (Merk.split n))) := by rw [Merk.root_two nd em (by omega), hl]
   rw [hx]
   have HT := ya (fun (W : World) (hb : Below w.heap.size w W) => ih (l.take (Merk.split n)) A (Merk.split n) (Merk.split n) W (by omega) (by omega) ((hr.below hb).take (by omega)) (Nat.le_refl _) (by omega) (hg.below hb))
   have HD := ya (fun (W : World) (hb : Below w.heap.size w W) => ih (l.drop (Merk.split n)) (if n = Merk.split n then A else A.map (·.add (Merk.split n * 16))) (n - Merk.split n) (n - Merk.split n) W (by omega) (by omega) ((hr.below hb).drop (by omega) (Nat.le_refl _)) (Nat.le_refl _) (by omega) (hg.below hb))
   have HN := ya (N.node (Merk.root nd em (l.take (Merk.split n))) (Merk.root nd em (l.drop (Merk.split n))))
   have HG := ya hg
   have hcm2 : c ≤ 9223372036854775807 := hcm
   clear hx hr hg hl ih hcm
   generalize Merk.root nd em (l.take (Merk.split n)) = X at *
   generalize Merk.root nd em (l.drop (Merk.split n)) = Y at *
   generalize Merk.split n = k at *
   generalize nd X Y = Z at *
   unfold z2z at HT HD ⊢
   have e0 : ((n : Int) == 0) = false := by simp; omega
   have e1 : ((n : Int) == 1) = false := by simp; omega
   go_enter Tryz.func67, Tryz.ntmps67
   go_upto_region 4 with (first
    | ((with_reducible show wpList _ _ _ _ _ _); refine z0t (cs := dgC 0) rfl rfl z0n ?_; intro w0 g0 hg0 q0 hb0 lt0; have HG0 := ya hg0; clear hg0)
    | (go_at_call 113; refine (HS.out _).mono ?_; rintro e w1 ⟨rfl, rfl⟩))
   have hS : Below w1.heap.size w1 w1.drew := (Below.refl _ _).drew
   refine yq 12 (by kernel_rfl) ?_
   refine WpT.tk 0 hS ?_
   simp only [nrm]
   refine WpT.tk 1 hS ?_
   simp only [nrm]
   refine WpT.tk 2 hS ?_
   simp only [nrm]
   refine WpT.tk 3 hS ?_
   simp only [nrm]
   refine WpT.tk 5 hS ?_
   simp only [nrm]
   refine WpT.tk 6 hS ?_
   simp only [nrm]
   refine WpT.tk 7 hS ?_
   simp only [nrm]
   refine WpT.tk 8 hS ?_
   simp only [nrm]
   refine WpT.tk 9 hS ?_
   simp only [nrm]
   refine WpT.on 4 rfl (fun K hK => ?_)
   go_simp; refine (HT.out _ (yb hb0 hS)).mono ?_; rintro e w5 ⟨rfl, hb5⟩; replace hS := yb hS hb5
   refine hK _ _ hS ?_; clear hK K; try simp only [nrm]
   refine WpT.on 10 rfl (fun K hK => ?_)
   go_simp; refine (HD.out _ (yb hb0 hS)).mono ?_; rintro e w6 ⟨rfl, hb6⟩; replace hS := yb hS hb6
   refine hK _ _ hS ?_; clear hK K; try simp only [nrm]
   refine WpT.on 11 rfl (fun K hK => ?_)
   go_simp; refine (HN.out _ (HG.out.below (yb hb0 hS))).mono ?_; rintro e w7 ⟨rfl, hb7⟩; replace hS := yb hS hb7; have q5 := q0.below hS
   refine hK _ _ hS ?_; clear hK K; try simp only [nrm]
   refine WpT.ta 12 rfl (fun K hK => ?_)
   refine (if_pos (by rfl)).mpr ?_; refine z09 (vs := dgC Z) rfl rfl rfl q5 (by rw [yc, yc]) (by rw [yf, yc]) (z0c _) ?_; intro w9 ht9 b9
   refine hK _ _ ?_; clear hK K; try simp only [nrm]
   refine WpT.done (by kernel_rfl) ?_ _
   go_wp2_with fail; exact z02 rfl rfl rfl b9 yn (by rw [yf, yc]) ⟨rfl, (yb hb0 hS).trans (ht9.below _ (by have := HG0.out; omega))⟩
theorem z9s {nd : Nat → Nat → Nat} {em : Nat} (N : Nds nd em) (K : Nat) : ∀ (l : List Nat) (A : Option Addr) (n c : Nat) (w : World), n ≤ K → n ≤ 1000000 → RdD w A n l → n ≤ c → c ≤ maxLen → RCon w →
  Calls Tryz.prog 61 #[.slice A n c] w (z2z (Merk.root nd em l) w) := by
 induction K with
 | zero =>
  intro l A n c w hK hn hr hnc hcm hg
  obtain rfl : n = 0 := by omega
  obtain rfl := List.eq_nil_of_length_eq_zero hr.len
  rw [Merk.root_nil]
  have HE := ya N.refEmpty
  have HG := ya hg
  clear hg hr
  unfold z2z
  go_enter Tryz.func61, Tryz.ntmps61
  go_upto_region 1 with ((with_reducible show wpList _ _ _ _ _ _); refine z0t (cs := dgC 0) rfl rfl z0n ?_; intro w0 g0 hg0 q0 hb0 lt0; have HG0 := ya hg0; clear hg0)
  go_wp2_with fail
  refine (HE.out _ (HG.out.below hb0)).mono ?_
  rintro e w2 ⟨rfl, hb2⟩
  have q2 := q0.below hb2
  go_wp2_with ((with_reducible show wpList _ _ _ _ _ _); refine z01 (vs := dgC em) rfl rfl rfl rfl q2 (by rw [yc, yc]) (by rw [yf, yc]) (z0c _) ?_; intro w9 ht9 b9)
  exact z02 rfl rfl rfl b9 yn (by rw [yf, yc]) ⟨rfl, (yb hb0 hb2).trans (ht9.below _ (by have := HG0.out; omega))⟩
 | succ K ih =>
  intro l A n c w hK hn hr hnc hcm hg
  by_cases h0 : n = 0
  ·exact ih l A n c w (by omega) hn hr hnc hcm hg
  by_cases h1 : n = 1
  ·subst h1
   match l, hr.len with
   | [x], _ =>
   rw [Merk.root_one]
   obtain ⟨ad, rfl, _⟩ := hr.elem (i := 0) (by simp)
   have HR := ya hr
   clear hr hg
   unfold z2z
   go_enter Tryz.func61, Tryz.ntmps61
   go_upto_region 1 with ((with_reducible show wpList _ _ _ _ _ _); refine z0t (cs := dgC 0) rfl rfl z0n ?_; intro w0 g0 hg0 q0 hb0 lt0; have HG0 := ya hg0; clear hg0)
   obtain ⟨ad2, e2, hc⟩ := (HR.out.below hb0).elem (i := 0) (by simp)
   obtain rfl := Option.some.inj e2
   rw [Nat.zero_mul] at hc
   simp only [List.getElem_cons_zero] at hc
   clear e2
   go_wp2_with (first
    | ((with_reducible show wpList _ _ _ _ _ _); refine yj (us := bv (dg x)) rfl rfl rfl yn (by rw [yf, z03]) hc ?_)
    | ((with_reducible show wpList _ _ _ _ _ _); refine z01 (vs := dgC x) rfl rfl rfl rfl q0 (by rw [yc, yc]) (by rw [yf, yc]) (z0c _) ?_; intro w9 ht9 b9))
   exact z02 rfl rfl rfl b9 yn (by rw [yf, yc]) ⟨rfl, hb0.trans (ht9.below _ (by have := HG0.out; omega))⟩
  ·have hk1 := Merk.split_lt (n := n) (by omega)
   have hk0 := Merk.split_pos n
   have hl := hr.len
   have HS := ya (fun W => zg4 n W (by omega) (by omega))
   have hx : Merk.root nd em l = nd (Merk.root nd em (l.take (Merk.split n))) (Merk.root nd em (l.drop (Merk.split n))) := by rw [Merk.root_two nd em (by omega), hl]
   rw [hx]
   have HT := ya (fun (W : World) (hb : Below w.heap.size w W) => ih (l.take (Merk.split n)) A (Merk.split n) c W (by omega) (by omega) ((hr.below hb).take (by omega)) (by omega) hcm (hg.below hb))
   have HD := ya (fun (W : World) (hb : Below w.heap.size w W) => ih (l.drop (Merk.split n)) (if c = Merk.split n then A else A.map (·.add (Merk.split n * 16))) (n - Merk.split n) (c - Merk.split n) W (by omega) (by omega) ((hr.below hb).drop (by omega) hnc) (by omega) (by omega) (hg.below hb))
   have HN := ya (N.refNode (Merk.root nd em (l.take (Merk.split n))) (Merk.root nd em (l.drop (Merk.split n))))
   have HG := ya hg
   have hcm2 : c ≤ 9223372036854775807 := hcm
   clear hx hr hg hl ih hcm
   generalize Merk.root nd em (l.take (Merk.split n)) = X at *
   generalize Merk.root nd em (l.drop (Merk.split n)) = Y at *
   generalize Merk.split n = k at *
   generalize nd X Y = Z at *
   unfold z2z at HT HD ⊢
   have e0 : ((n : Int) == 0) = false := by simp; omega
   have e1 : ((n : Int) == 1) = false := by simp; omega
   go_enter Tryz.func61, Tryz.ntmps61
   go_upto_region 6 with (first
    | ((with_reducible show wpList _ _ _ _ _ _); refine z0t (cs := dgC 0) rfl rfl z0n ?_; intro w0 g0 hg0 q0 hb0 lt0; have HG0 := ya hg0; clear hg0)
    | (go_at_call 109; refine (HS.out _).mono ?_; rintro e w1 ⟨rfl, rfl⟩))
   have hS : Below w1.heap.size w1 w1.drew := (Below.refl _ _).drew
   refine yq 9 (by kernel_rfl) ?_
   refine WpT.tk 0 hS ?_
   simp only [nrm]
   refine WpT.tk 1 hS ?_
   simp only [nrm]
   refine WpT.tk 2 hS ?_
   simp only [nrm]
   refine WpT.tk 4 hS ?_
   simp only [nrm]
   refine WpT.tk 5 hS ?_
   simp only [nrm]
   refine WpT.tk 6 hS ?_
   simp only [nrm]
   refine WpT.on 3 rfl (fun K hK => ?_)
   go_simp; refine (HT.out _ (yb hb0 hS)).mono ?_; rintro e w5 ⟨rfl, hb5⟩; replace hS := yb hS hb5
   refine hK _ _ hS ?_; clear hK K; try simp only [nrm]
   refine WpT.on 7 rfl (fun K hK => ?_)
   go_simp; refine (HD.out _ (yb hb0 hS)).mono ?_; rintro e w6 ⟨rfl, hb6⟩; replace hS := yb hS hb6
   refine hK _ _ hS ?_; clear hK K; try simp only [nrm]
   refine WpT.on 8 rfl (fun K hK => ?_)
   go_simp; refine (HN.out _ (HG.out.below (yb hb0 hS))).mono ?_; rintro e w7 ⟨rfl, hb7⟩; replace hS := yb hS hb7; have q5 := q0.below hS
   refine hK _ _ hS ?_; clear hK K; try simp only [nrm]
   refine WpT.ta 9 rfl (fun K hK => ?_)
   refine (if_pos (by rfl)).mpr ?_; refine z09 (vs := dgC Z) rfl rfl rfl q5 (by rw [yc, yc]) (by rw [yf, yc]) (z0c _) ?_; intro w9 ht9 b9
   refine hK _ _ ?_; clear hK K; try simp only [nrm]
   refine WpT.done (by kernel_rfl) ?_ _
   go_wp2_with fail; exact z02 rfl rfl rfl b9 yn (by rw [yf, yc]) ⟨rfl, (yb hb0 hS).trans (ht9.below _ (by have := HG0.out; omega))⟩
theorem zi9 {α} [DecidableEq α] {a b : List α} {k : Nat} (ha : k < a.length) (hb : k < b.length) (h : a[k] ≠ b[k]) : decide (a = b) = false := by
 rw [decide_eq_false_iff_not]
 intro e
 subst e
 exact h rfl
theorem zge (a b : List Nat) (A : Option Addr) (n c : Nat) (B : Option Addr) (m d : Nat) (w : World) (ha : RdD w A n a) (hb : RdD w B m b) (hn : n ≤ 1000000) (hm : m ≤ 1000000) (wa : ∀ x ∈ a, x < 2 ^ 128) (wb : ∀ x ∈ b, x < 2 ^ 128) :
  Calls Tryz.prog 34 #[.slice A n c, .slice B m d] w fun e w' => e = .returned (.bool (decide (a = b))) ∧ Below w.heap.size w w' := by
 have HA := ya ha
 have HB := ya hb
 have HLA := ya ha.len
 have HLB := ya hb.len
 have WA := ya wa
 have WB := ya wb
 clear wa wb
 by_cases hnm : n = m
 ·subst hnm
  have HX := ya (fun (h : ∀ j (hj : j < a.length) (hj2 : j < b.length), a[j] = b[j]) => (show decide (a = b) = true by
   rw [decide_eq_true_eq]; exact List.ext_getElem (by rw [ha.len, hb.len]) (fun i h1 h2 => h i h1 h2)))
  have HY := ya (fun k (h1 : k < a.length) (h2 : k < b.length) (h : a[k] ≠ b[k]) => zi9 h1 h2 h)
  generalize decide (a = b) = V at *
  clear ha hb
  have dn : ((n : Int) != n) = false := by simp
  go_enter Tryz.func34, Tryz.ntmps34
  go_wp2_with fail
  go_loopw [5] (fun vk wr => ∃ k : Nat, k ≤ n ∧ vk = .int .i64 k ∧ Below w.heap.size w wr ∧ Hid (∀ j (hj : j < a.length) (hj2 : j < b.length), j < k → a[j] = b[j])) (fun vk _ => n - (intOf vk).toNat)
  case atStart => exact ⟨0, Nat.zero_le _, rfl, Below.refl _ _, ya (fun j hj hj2 h => by omega)⟩
  case round =>
   obtain ⟨k, hk, rfl, hbw, HV⟩ := hrel
   by_cases hlt : k < n
   ·have hka : k < a.length := by have := HLA.out; omega
    have hkb : k < b.length := by have := HLB.out; omega
    obtain ⟨ad, rfl, hca⟩ := (HA.out.below hbw).elem hka
    obtain ⟨bd, rfl, hcb⟩ := (HB.out.below hbw).elem hkb
    have hne := z8e (WA.out _ (List.getElem_mem hka)) (WB.out _ (List.getElem_mem hkb))
    have HN : Hid (a[k] = b[k] → ∀ j (hj : j < a.length) (hj2 : j < b.length), j < k + 1 → a[j] = b[j]) := ya (fun h j hj hj2 hjk => by
     by_cases e : j = k
     ·subst e; exact h
     ·exact HV.out j hj hj2 (by omega))
    have HM := ya (HY.out k hka hkb)
    generalize a[k] = x at *
    generalize b[k] = y at *
    go_upto_region 6 with fail
    by_cases hxy : x = y
    ·have dx : decide (x = y) = true := by simpa using hxy
     rw [dx] at hne
     have HN2 := ya (HN.out hxy)
     clear HN HM HV dx hxy
     refine yq 9 (by kernel_rfl) ?_
     refine WpT.tk 0 ((Below.refl _ _).drew) ?_
     simp only [nrm]
     refine WpT.tk 1 ((Below.refl _ _).drew) ?_
     simp only [nrm]
     refine WpT.tk 2 ((Below.refl _ _).drew) ?_
     simp only [nrm]
     refine WpT.tl 3 rfl (z07 (us := bv (dg x)) rfl rfl rfl yn (by rw [yf, z03]) hca) ((Below.refl _ _).drew) ?_
     simp only [nrm]
     refine WpT.tk 4 ((Below.refl _ _).drew) ?_
     simp only [nrm]
     refine WpT.tk 5 ((Below.refl _ _).drew) ?_
     simp only [nrm]
     refine WpT.tk 6 ((Below.refl _ _).drew) ?_
     simp only [nrm]
     refine WpT.tl 7 rfl (z07 (us := bv (dg y)) rfl rfl rfl yn (by rw [yf, z03]) hcb) ((Below.refl _ _).drew) ?_
     simp only [nrm]
     refine WpT.tk 8 ((Below.refl _ _).drew) ?_
     simp only [nrm]
     refine WpT.done (by kernel_rfl) ?_ _
     go_wp2_with fail
     exact ⟨⟨k + 1, by omega, by go_num, hbw.drew, HN2⟩, by simp [intOf]; omega⟩
    ·have dx : decide (x = y) = false := by simpa using hxy
     rw [dx] at hne
     have hV := HM.out hxy
     subst hV
     clear HN HM HV dx hxy HX HY
     refine yq 9 (by kernel_rfl) ?_
     refine WpT.tk 0 ((Below.refl _ _).drew) ?_
     simp only [nrm]
     refine WpT.tk 1 ((Below.refl _ _).drew) ?_
     simp only [nrm]
     refine WpT.tk 2 ((Below.refl _ _).drew) ?_
     simp only [nrm]
     refine WpT.tl 3 rfl (z07 (us := bv (dg x)) rfl rfl rfl yn (by rw [yf, z03]) hca) ((Below.refl _ _).drew) ?_
     simp only [nrm]
     refine WpT.tk 4 ((Below.refl _ _).drew) ?_
     simp only [nrm]
     refine WpT.tk 5 ((Below.refl _ _).drew) ?_
     simp only [nrm]
     refine WpT.tk 6 ((Below.refl _ _).drew) ?_
     simp only [nrm]
     refine WpT.tl 7 rfl (z07 (us := bv (dg y)) rfl rfl rfl yn (by rw [yf, z03]) hcb) ((Below.refl _ _).drew) ?_
     simp only [nrm]
     refine WpT.tk 8 ((Below.refl _ _).drew) ?_
     simp only [nrm]
     refine WpT.done (by kernel_rfl) ?_ _
     go_wp2_with fail
     go_ret
     exact ⟨rfl, hbw.drew⟩
   ·obtain rfl : k = n := by omega
    have hV : V = true := HX.out (fun j hj hj2 => HV.out j hj hj2 (by have := HLA.out; omega))
    subst hV
    clear HX HY HV
    go_wp2_with fail
    go_ret
    exact ⟨rfl, hbw⟩
 ·have hV : decide (a = b) = false := by
   rw [decide_eq_false_iff_not]
   intro e
   subst e
   exact hnm (ha.len.symm.trans hb.len)
  rw [hV]
  have dn : ((n : Int) != m) = true := by simp; omega
  clear ha hb hV
  go_enter Tryz.func34, Tryz.ntmps34
  go_wp2_with fail
  go_ret
  exact ⟨rfl, Below.refl _ _⟩
theorem zn4 (W : World) : (Instr.buildSlice 37 0 #[]).run Tryz.prog W = .ok (.slice (some ⟨W.heap.size, 0, none⟩) 0 0) (W.alloc (.cells #[] 25)) := by kernel_rfl
theorem zdw {w : World} {o : Oper} {a : Act} {K : Act → World → Prop} {Q : Exit → Act → World → Prop} (ho : o.op = .buildSlice 37 0 #[])
  (h : ∀ w' g, g = w.heap.size → yg w' w.heap.size (.slice (some ⟨g, 0, none⟩) 0 0) [] → Below w.heap.size w w' → g < w'.heap.size → K (a.put o.dst (.slice (some ⟨g, 0, none⟩) 0 0)) w') : o.wp Tryz.prog a w K Q := by
 have h2 := h _ _ rfl (World.ownsRow_made w #[] 0 (Nat.le_refl _) (Nat.zero_le _) rfl) ((Below.refl _ _).alloc (Nat.le_refl _) _) (by simp)
 unfold Oper.wp execOp
 simp only [ho, List.map_toArray, List.map_nil, zn4, Sem.run_bind, Result.andThen_ok, Sem.run_pure]
 exact h2
theorem zdx {w : World} {o : Oper} {a : Act} {K : Act → World → Prop} {Q : Exit → Act → World → Prop} {y : Operand} {n : Nat} (ho : o.op = .buildSlice 37 1 #[(0, y)]) (hy : a.eval y = dgV n)
  (h : ∀ w' g, g = w.heap.size → Rd w' (some ⟨g, 0, none⟩) (1 * 16) (z2b [n]) → Below w.heap.size w w' → g < w'.heap.size → K (a.put o.dst (.slice (some ⟨g, 0, none⟩) 1 1)) w') : o.wp Tryz.prog a w K Q := by
 have h2 := h _ _ rfl (by have := z7i (Blk.new w 25 (dgC n)); simpa [z2b] using this) ((Below.refl _ _).alloc (Nat.le_refl _) _) (by simp)
 unfold Oper.wp execOp
 simp only [ho, List.map_toArray, List.map_cons, List.map_nil, hy, zed, Sem.run_bind, Result.andThen_ok, Sem.run_pure]
 exact h2
theorem Rd.grown_ne {w w' : World} {g n : Nat} {xs : List Value} {row : Option Nat} (h : Rd w (some ⟨g, 0, none⟩) n xs) (hg : w.grownBy w' row) (hlt : g < w.heap.size) (hn : row ≠ some g) : Rd w' (some ⟨g, 0, none⟩) n xs :=
 ⟨h.len, fun k u hk => by
  obtain ⟨ad, e, hc⟩ := h.at_ k u hk
  injection e with e
  subst e
  exact ⟨_, rfl, (World.cell?_of_block (hg.block _ (by rw [z8y]; exact hlt) (by rw [z8y]; exact fun e => hn e.symm))).trans hc⟩⟩
def z3q (l : List Nat) (w : World) (e : Ending) (w' : World) : Prop := ∃ v, e = .returned v ∧ yg w' w.heap.size v l ∧ Below w.heap.size w w'
theorem yg.app {w : World} {B : Nat} {v : Value} {a b : List Nat} (h : w.ownsRow B 25 16 v (a.length + b.length) (z2b a ++ z2b b)) : yg w B v (a ++ b) := by
 unfold yg
 rw [List.length_append, zap]
 exact h
theorem zdu (l : List Nat) (d : Nat) (A : Option Addr) (n c : Nat) (w : World) (hn : n ≤ 1000000) (hr : RdD w A n l) : Calls Tryz.prog 156 #[.slice A n c, dgV d] w (z3q (l ++ [d]) w) := by
 obtain ⟨wa, hwa, hb0, q0⟩ : ∃ wa : World, wa = w.alloc (.cells (dgC d) 25) ∧ Below w.heap.size w wa ∧ Blk wa w.heap.size 25 (dgC d) :=
  ⟨_, rfl, (Below.refl w.heap.size w).alloc (Nat.le_refl _) _, Blk.new _ _ _⟩
 have HWA := ya hwa
 have HR := ya (hr.below hb0)
 have HL := ya hr.len
 clear hwa hr
 have hS : Below wa.heap.size wa wa.drew := (Below.refl _ _).drew
 unfold z3q
 go_enter Tryz.func156, Tryz.ntmps156
 go_upto_region 1 with (fail)
 change Code.wp _ _ _ _ (w.alloc (.cells (dgC d) 25))
 rw [← HWA.out]
 refine yq 6 (by kernel_rfl) ?_
 refine WpT.tk 1 hS ?_
 simp only [nrm]
 refine WpT.tl 3 rfl (z5l rfl rfl rfl yn (by rw [yf, yc]) q0) hS ?_
 simp only [nrm]
 refine WpT.fork (i := 0) (j := 4) rfl rfl (by kernel_rfl) (fun K hK => ?_) (fun K hK => ?_)
 ·refine (if_pos (by rfl)).mpr ?_; refine zdw rfl ?_; intro wL gL hgL hown hbL ltL; replace hown := yg.lower hown hS.size; (try have hne : g4 ≠ gL := by omega); clear hgL; replace hS := yb hS hbL; (try (replace hr4 := hr4.below hbL; have lt4 := Nat.lt_of_lt_of_le lt4 hbL.size))
  refine hK _ _ hS ?_; clear hK K; try simp only [nrm]
  refine WpT.fork (i := 2) (j := 4) rfl rfl (by kernel_rfl) (fun K hK => ?_) (fun K hK => ?_)
  ·refine (if_pos (by rfl)).mpr ?_; refine z4c rfl z38 (by rfl) hown (by rfl) (m := n) (HR.out.below hS).rd (z3b l) (by simp; omega) hS.size ?_; intro v5 w5 hown5 hg5 hb5; (try replace hr4 := hr4.grown_ne hg5 lt4 (fun e => hne (Option.some.inj e).symm)); replace hown : yg w5 wa.heap.size v5 ([] ++ l) := yg.app (by rw [HL.out]; exact hown5); clear hown5; replace hS := hS.trans hb5
   refine hK _ _ hS ?_; clear hK K; try simp only [nrm]
   refine WpT.on 4 rfl (fun K hK => ?_)
   refine (if_pos (by rfl)).mpr ?_; refine zdx rfl (by rfl) ?_; intro w4 g4 hg4 hr4 hb4 lt4; (try have hne : g4 ≠ gL := by omega); clear hg4; (try replace hown := hown.below hb4); replace hS := yb hS hb4
   refine hK _ _ hS ?_; clear hK K; try simp only [nrm]
   refine WpT.on 5 rfl (fun K hK => ?_)
   refine (if_pos (by rfl)).mpr ?_; refine z4c rfl z38 (by rfl) hown (by rfl) (m := 1) hr4 (z3b [d]) (by simp; have := HL.out; omega) hS.size ?_; intro v6 w6 hown6 hg6 hb6; replace hown6 : yg w6 wa.heap.size v6 (([] ++ l) ++ [d]) := yg.app hown6; replace hS := hS.trans hb6
   refine hK _ _ hS ?_; clear hK K; try simp only [nrm]
   refine WpT.ta 6 rfl (fun K hK => ?_)
   go_simp; (try go_bits)
   refine hK _ _ ?_; clear hK K; try simp only [nrm]
   refine WpT.done (by kernel_rfl) ?_ _
   go_wp2_with fail; go_ret; exact ⟨_, rfl, hown6.lower hb0.size, yb hb0 hS⟩
  ·refine (if_pos (by rfl)).mpr ?_; refine zdx rfl (by rfl) ?_; intro w4 g4 hg4 hr4 hb4 lt4; (try have hne : g4 ≠ gL := by omega); clear hg4; (try replace hown := hown.below hb4); replace hS := yb hS hb4
   refine hK _ _ hS ?_; clear hK K; try simp only [nrm]
   refine WpT.on 2 rfl (fun K hK => ?_)
   refine (if_pos (by rfl)).mpr ?_; refine z4c rfl z38 (by rfl) hown (by rfl) (m := n) (HR.out.below hS).rd (z3b l) (by simp; omega) hS.size ?_; intro v5 w5 hown5 hg5 hb5; (try replace hr4 := hr4.grown_ne hg5 lt4 (fun e => hne (Option.some.inj e).symm)); replace hown : yg w5 wa.heap.size v5 ([] ++ l) := yg.app (by rw [HL.out]; exact hown5); clear hown5; replace hS := hS.trans hb5
   refine hK _ _ hS ?_; clear hK K; try simp only [nrm]
   refine WpT.on 5 rfl (fun K hK => ?_)
   refine (if_pos (by rfl)).mpr ?_; refine z4c rfl z38 (by rfl) hown (by rfl) (m := 1) hr4 (z3b [d]) (by simp; have := HL.out; omega) hS.size ?_; intro v6 w6 hown6 hg6 hb6; replace hown6 : yg w6 wa.heap.size v6 (([] ++ l) ++ [d]) := yg.app hown6; replace hS := hS.trans hb6
   refine hK _ _ hS ?_; clear hK K; try simp only [nrm]
   refine WpT.ta 6 rfl (fun K hK => ?_)
   go_simp; (try go_bits)
   refine hK _ _ ?_; clear hK K; try simp only [nrm]
   refine WpT.done (by kernel_rfl) ?_ _
   go_wp2_with fail; go_ret; exact ⟨_, rfl, hown6.lower hb0.size, yb hb0 hS⟩
 ·refine (if_pos (by rfl)).mpr ?_; refine zdx rfl (by rfl) ?_; intro w4 g4 hg4 hr4 hb4 lt4; (try have hne : g4 ≠ gL := by omega); clear hg4; (try replace hown := hown.below hb4); replace hS := yb hS hb4
  refine hK _ _ hS ?_; clear hK K; try simp only [nrm]
  refine WpT.on 0 rfl (fun K hK => ?_)
  refine (if_pos (by rfl)).mpr ?_; refine zdw rfl ?_; intro wL gL hgL hown hbL ltL; replace hown := yg.lower hown hS.size; (try have hne : g4 ≠ gL := by omega); clear hgL; replace hS := yb hS hbL; (try (replace hr4 := hr4.below hbL; have lt4 := Nat.lt_of_lt_of_le lt4 hbL.size))
  refine hK _ _ hS ?_; clear hK K; try simp only [nrm]
  refine WpT.on 2 rfl (fun K hK => ?_)
  refine (if_pos (by rfl)).mpr ?_; refine z4c rfl z38 (by rfl) hown (by rfl) (m := n) (HR.out.below hS).rd (z3b l) (by simp; omega) hS.size ?_; intro v5 w5 hown5 hg5 hb5; (try replace hr4 := hr4.grown_ne hg5 lt4 (fun e => hne (Option.some.inj e).symm)); replace hown : yg w5 wa.heap.size v5 ([] ++ l) := yg.app (by rw [HL.out]; exact hown5); clear hown5; replace hS := hS.trans hb5
  refine hK _ _ hS ?_; clear hK K; try simp only [nrm]
  refine WpT.on 5 rfl (fun K hK => ?_)
  refine (if_pos (by rfl)).mpr ?_; refine z4c rfl z38 (by rfl) hown (by rfl) (m := 1) hr4 (z3b [d]) (by simp; have := HL.out; omega) hS.size ?_; intro v6 w6 hown6 hg6 hb6; replace hown6 : yg w6 wa.heap.size v6 (([] ++ l) ++ [d]) := yg.app hown6; replace hS := hS.trans hb6
  refine hK _ _ hS ?_; clear hK K; try simp only [nrm]
  refine WpT.ta 6 rfl (fun K hK => ?_)
  go_simp; (try go_bits)
  refine hK _ _ ?_; clear hK K; try simp only [nrm]
  refine WpT.done (by kernel_rfl) ?_ _
  go_wp2_with fail; go_ret; exact ⟨_, rfl, hown6.lower hb0.size, yb hb0 hS⟩
theorem Merk.incl_len (nd : Nat → Nat → Nat) (em : Nat) (K : Nat) : ∀ (l : List Nat) (i : Nat), l.length ≤ K → (Merk.incl nd em l i).length ≤ l.length := by
 induction K with
 | zero => intro l i h; rw [Merk.incl, dif_neg (by omega)]; simp
 | succ K ih =>
  intro l i h
  rw [Merk.incl]
  by_cases h2 : 2 ≤ l.length
  ·have h3 := Merk.split_lt h2
   have h4 := Merk.split_pos l.length
   rw [dif_pos h2]
   split
   ·rw [List.length_append]; have := ih (l.take (Merk.split l.length)) i (by simp; omega); simp at this ⊢; omega
   ·rw [List.length_append]; have := ih (l.drop (Merk.split l.length)) (i - Merk.split l.length) (by simp; omega); simp at this ⊢; omega
  ·rw [dif_neg h2]; simp
theorem Merk.incl_left (nd : Nat → Nat → Nat) (em : Nat) {l : List Nat} {i : Nat} (h : 2 ≤ l.length) (hi : i < Merk.split l.length) : Merk.incl nd em l i = Merk.incl nd em (l.take (Merk.split l.length)) i ++ [Merk.root nd em (l.drop (Merk.split l.length))] := by
 rw [Merk.incl, dif_pos h, if_pos hi]
theorem Merk.incl_right (nd : Nat → Nat → Nat) (em : Nat) {l : List Nat} {i : Nat} (h : 2 ≤ l.length) (hi : ¬ i < Merk.split l.length) : Merk.incl nd em l i = Merk.incl nd em (l.drop (Merk.split l.length)) (i - Merk.split l.length) ++ [Merk.root nd em (l.take (Merk.split l.length))] := by
 rw [Merk.incl, dif_pos h, if_neg hi]
theorem Merk.incl_one (nd : Nat → Nat → Nat) (em : Nat) {l : List Nat} {i : Nat} (h : ¬ 2 ≤ l.length) : Merk.incl nd em l i = [] := by
 rw [Merk.incl, dif_neg h]
theorem ztc {nd : Nat → Nat → Nat} {em : Nat} (N : Nds nd em) (K : Nat) : ∀ (l : List Nat) (i : Nat) (A : Option Addr) (n c : Nat) (w : World), n ≤ K → n ≤ 1000000 → i < n → RdD w A n l → n ≤ c → c ≤ maxLen → RCon w →
  Calls Tryz.prog 127 #[.slice A n c, .int .i64 i] w (z3q (Merk.incl nd em l i) w) := by
 induction K with
 | zero => intro l i A n c w hK hn hi; omega
 | succ K ih =>
  intro l i A n c w hK hn hi hr hnc hcm hg
  have hl := hr.len
  by_cases h1 : n = 1
  ·subst h1
   rw [Merk.incl_one nd em (by omega)]
   unfold z3q
   clear hr hg
   go_enter Tryz.func127, Tryz.ntmps127
   go_wp2_with fail
   go_ret
   exact ⟨_, rfl, yg.nil _ _, Below.refl _ _⟩
  ·have hk1 := Merk.split_lt (n := n) (by omega)
   have hk0 := Merk.split_pos n
   have HS := ya (fun W => zg4 n W (by omega) (by omega))
   have hcm2 : c ≤ 9223372036854775807 := hcm
   have e1 : ((n : Int) == 1) = false := by simp; omega
   have HRT := ya (fun (W : World) (hb : Below w.heap.size w W) => z9s N n (l.take (Merk.split n)) A (Merk.split n) c W (by omega) (by omega) ((hr.below hb).take (by omega)) (by omega) hcm (hg.below hb))
   have HRD := ya (fun (W : World) (hb : Below w.heap.size w W) => z9s N n (l.drop (Merk.split n)) (if c = Merk.split n then A else A.map (·.add (Merk.split n * 16))) (n - Merk.split n) (c - Merk.split n) W (by omega) (by omega) ((hr.below hb).drop (by omega) hnc) (by omega) (by omega) (hg.below hb))
   by_cases hik : i < Merk.split n
   ·have hx := Merk.incl_left nd em (l := l) (i := i) (by omega) (by rw [hl]; exact hik)
    rw [hl] at hx
    have hpl := Merk.incl_len nd em _ (l.take (Merk.split n)) i (Nat.le_refl _)
    rw [List.length_take] at hpl
    have HI := ya (fun (W : World) (hb : Below w.heap.size w W) => ih (l.take (Merk.split n)) i A (Merk.split n) c W (by omega) (by omega) hik ((hr.below hb).take (by omega)) (by omega) hcm (hg.below hb))
    rw [hx]
    clear hx ih HRT hr hg hcm hl
    have HPL : Hid ((Merk.incl nd em (l.take (Merk.split n)) i).length ≤ 1000000) := ya (by omega)
    clear hpl
    generalize Merk.root nd em (l.drop (Merk.split n)) = X at *
    generalize Merk.incl nd em (l.take (Merk.split n)) i = P at *
    generalize Merk.split n = k at *
    unfold z3q at HI ⊢
    unfold z2z at HRD
    have hik2 : (i : Int) < (k : Int) := by omega
    go_enter Tryz.func127, Tryz.ntmps127
    go_upto_region 5 with (go_at_call 109; refine (HS.out _).mono ?_; rintro e w1 ⟨rfl, rfl⟩)
    have hb0 := Below.refl w1.heap.size w1
    have hS : Below w1.heap.size w1 w1.drew := (Below.refl _ _).drew
    refine yq 10 (by kernel_rfl) ?_
    refine WpT.tk 0 hS ?_
    simp only [nrm]
    refine WpT.tk 1 hS ?_
    simp only [nrm]
    refine WpT.tk 2 hS ?_
    simp only [nrm]
    refine WpT.tk 3 hS ?_
    simp only [nrm]
    refine WpT.tk 5 hS ?_
    simp only [nrm]
    refine WpT.tk 6 hS ?_
    simp only [nrm]
    refine WpT.tk 7 hS ?_
    simp only [nrm]
    refine WpT.on 4 rfl (fun K hK => ?_)
    go_simp; refine (HI.out _ hS).mono ?_; rintro e w5 ⟨v5, rfl, hown5, hb5⟩; obtain ⟨A5, c5, rfl, h51, h52, hr5⟩ := hown5.form; clear hown5; replace hS := yb hS hb5
    refine hK _ _ hS ?_; clear hK K; try simp only [nrm]
    refine WpT.on 8 rfl (fun K hK => ?_)
    go_simp; refine (HRD.out _ hS).mono ?_; rintro e w6 ⟨rfl, hb6⟩; replace hS := yb hS hb6; replace hr5 := hr5.below hb6
    refine hK _ _ hS ?_; clear hK K; try simp only [nrm]
    refine WpT.on 9 rfl (fun K hK => ?_)
    go_simp; refine (zdu P X A5 P.length c5 _ HPL.out hr5).mono ?_; unfold z3q; rintro e w7 ⟨v7, rfl, hown7, hb7⟩; replace hown7 := hown7.lower hS.size; replace hS := yb hS hb7
    refine hK _ _ hS ?_; clear hK K; try simp only [nrm]
    refine WpT.ta 10 rfl (fun K hK => ?_)
    go_simp; (try go_bits)
    refine hK _ _ ?_; clear hK K; try simp only [nrm]
    refine WpT.done (by kernel_rfl) ?_ _
    go_wp2_with fail; go_ret; exact ⟨_, rfl, hown7, hS⟩
   ·have hx := Merk.incl_right nd em (l := l) (i := i) (by omega) (by rw [hl]; exact hik)
    rw [hl] at hx
    have hpl := Merk.incl_len nd em _ (l.drop (Merk.split n)) (i - Merk.split n) (Nat.le_refl _)
    rw [List.length_drop] at hpl
    have HI := ya (fun (W : World) (hb : Below w.heap.size w W) => ih (l.drop (Merk.split n)) (i - Merk.split n) (if c = Merk.split n then A else A.map (·.add (Merk.split n * 16))) (n - Merk.split n) (c - Merk.split n) W (by omega) (by omega) (by omega) ((hr.below hb).drop (by omega) hnc) (by omega) (by omega) (hg.below hb))
    rw [hx]
    have hcast : ((i - Merk.split n : Nat) : Int) = (i : Int) - (Merk.split n : Int) := by omega
    rw [hcast] at HI
    have HPL : Hid ((Merk.incl nd em (l.drop (Merk.split n)) (i - Merk.split n)).length ≤ 1000000) := ya (by omega)
    clear hx ih HRD hr hg hcm hl hcast
    clear hpl
    generalize Merk.root nd em (l.take (Merk.split n)) = X at *
    generalize Merk.incl nd em (l.drop (Merk.split n)) (i - Merk.split n) = P at *
    generalize Merk.split n = k at *
    unfold z3q at HI ⊢
    unfold z2z at HRT
    have hik2 : ¬ (i : Int) < (k : Int) := by omega
    have hsub : 0 ≤ (i : Int) - (k : Int) ∧ (i : Int) - (k : Int) ≤ 1000000 := by omega
    have HW : Hid (wrap64 ((i : Int) - (k : Int)) = (i : Int) - (k : Int) ∧ IntKind.i64.wrap ((i : Int) - (k : Int)) = (i : Int) - (k : Int)) := ya ⟨by unfold wrap64; omega, wrap_small _ (by omega) (by omega)⟩
    go_enter Tryz.func127, Tryz.ntmps127
    go_upto_region 6 with (go_at_call 109; refine (HS.out _).mono ?_; rintro e w1 ⟨rfl, rfl⟩)
    have hS : Below w1.heap.size w1 w1.drew := (Below.refl _ _).drew
    refine yq 12 (by kernel_rfl) ?_
    refine WpT.tk 0 hS ?_
    simp only [nrm]
    refine WpT.tk 1 hS ?_
    simp only [nrm]
    refine WpT.tk 2 hS ?_
    simp only [nrm]
    refine WpT.tk 3 hS ?_
    simp only [nrm]
    refine WpT.tk 4 hS ?_
    simp only [nrm]
    refine WpT.tk 5 hS ?_
    simp only [nrm]
    refine WpT.tk 7 hS ?_
    simp only [nrm]
    refine WpT.tk 8 hS ?_
    simp only [nrm]
    refine WpT.tk 9 hS ?_
    simp only [nrm]
    refine WpT.on 6 rfl (fun K hK => ?_)
    go_simp; (try simp only [HW.out.1, HW.out.2]); refine (HI.out _ hS).mono ?_; rintro e w5 ⟨v5, rfl, hown5, hb5⟩; obtain ⟨A5, c5, rfl, h51, h52, hr5⟩ := hown5.form; clear hown5; replace hS := yb hS hb5
    refine hK _ _ hS ?_; clear hK K; try simp only [nrm]
    refine WpT.on 10 rfl (fun K hK => ?_)
    go_simp; refine (HRT.out _ hS).mono ?_; rintro e w6 ⟨rfl, hb6⟩; replace hS := yb hS hb6; replace hr5 := hr5.below hb6
    refine hK _ _ hS ?_; clear hK K; try simp only [nrm]
    refine WpT.on 11 rfl (fun K hK => ?_)
    go_simp; refine (zdu P X A5 P.length c5 _ HPL.out hr5).mono ?_; unfold z3q; rintro e w7 ⟨v7, rfl, hown7, hb7⟩; replace hown7 := hown7.lower hS.size; replace hS := yb hS hb7
    refine hK _ _ hS ?_; clear hK K; try simp only [nrm]
    refine WpT.ta 12 rfl (fun K hK => ?_)
    go_simp; (try go_bits)
    refine hK _ _ ?_; clear hK K; try simp only [nrm]
    refine WpT.done (by kernel_rfl) ?_ _
    go_wp2_with fail; go_ret; exact ⟨_, rfl, hown7, hS⟩
/-! Paths, or errors. -/
def z21 (nd : Nat → Nat → Nat) (em : Nat) (l : List Nat) (i : Int) : List Nat × Int := if 0 ≤ i ∧ i < l.length then (Merk.incl nd em l i.toNat, 0) else ([], 1)
def z2s (nd : Nat → Nat → Nat) (em : Nat) (l : List Nat) (m : Int) : List Nat × Int := if 0 ≤ m ∧ m ≤ l.length then (if m = 0 ∨ m = l.length then ([], 0) else (Merk.csy nd em l m.toNat true, 0)) else ([], 1)
abbrev ptC (v : Value) (er : Int) : Array Value := #[v, .int .i64 er]
theorem z7e : (Tryz.prog.underlying 133).map z0b = some true := by kernel_rfl
theorem z42 : (Tryz.prog.info? 133).map (·.size) = some 2 := by kernel_rfl
theorem z81 (W : World) : (zeroValue 133).run Tryz.prog W = .ok (.agg (ptC (.slice none 0 0) 0)) W := by kernel_rfl
theorem zhp (er : Int) (W : World) : (Instr.build 133 #[(1, .int .i64 er)]).run Tryz.prog W = .ok (.agg (ptC (.slice none 0 0) er)) W := by kernel_rfl
theorem zhq (A : Option Addr) (n c : Nat) (W : World) : (Instr.build 133 #[(0, .slice A n c)]).run Tryz.prog W = .ok (.agg (ptC (.slice A n c) 0)) W := by kernel_rfl
theorem zny (W : World) : (Instr.build 133 #[]).run Tryz.prog W = .ok (.agg (ptC (.slice none 0 0) 0)) W := by kernel_rfl
theorem z2l {P : Program} {w : World} {ops : Array Oper} {rest : List Oper} {o : Oper} {a : Act} {Q : Exit → Act → World → Prop} (hgd : o.guard = none) {T : TypeId} {i : Nat} {x : Operand} {vx v : Value} (ho : o.op = .build T #[(i, x)]) (hx : a.eval x = vx)
  (hr : ∀ W, (Instr.build T #[(i, vx)]).run P W = .ok v W) (h : wpList P ops Q rest (a.put o.dst v) w) : wpList P ops Q (o :: rest) a w := by
 refine wpList_plain hgd fun K hK => ?_
 unfold Oper.wp execOp
 simp only [ho, List.map_toArray, List.map_cons, List.map_nil, hx, Sem.run_bind, hr, Result.andThen_ok, Sem.run_pure]
 exact hK _ _ h
theorem z4o {P : Program} {w : World} {ops : Array Oper} {rest : List Oper} {o : Oper} {a : Act} {Q : Exit → Act → World → Prop} (hgd : o.guard = none) {T : TypeId} {v : Value} (ho : o.op = .build T #[])
  (hr : ∀ W, (Instr.build T #[]).run P W = .ok v W) (h : wpList P ops Q rest (a.put o.dst v) w) : wpList P ops Q (o :: rest) a w := by
 refine wpList_plain hgd fun K hK => ?_
 unfold Oper.wp execOp
 simp only [ho, List.map_toArray, List.map_nil, Sem.run_bind, hr, Result.andThen_ok, Sem.run_pure]
 exact hK _ _ h
def z5r (p : List Nat × Int) (w : World) (e : Ending) (w' : World) : Prop := ∃ v, e = .returned (.agg (ptC v p.2)) ∧ yg w' w.heap.size v p.1 ∧ Below w.heap.size w w'
theorem z7q (A : Option Addr) (n c : Nat) (er : Int) : (ptC (.slice A n c) er).all (·.oneCell') = true := by simp [ptC, Value.oneCell']
theorem zte (l : List Nat) (i : Int) (A : Option Addr) (n c : Nat) (w : World) (h : i < 0 ∨ (n : Int) ≤ i) :
  Calls Tryz.prog 87 #[.slice A n c, .int .i64 i] w (z5r ([], 1) w) := by
 have HB := ya (zhp 1)
 unfold z5r
 by_cases h0 : i < 0
 ·have d0 : decide (i < 0) = true := by simpa using h0
  go_enter Tryz.func87, Tryz.ntmps87
  go_wp2_with (first
   | ((with_reducible show sl 4); refine z0t (cs := ptC (.slice none 0 0) 0) rfl rfl z81 ?_; intro w0 g0 hg0 q0 hb0 lt0; have HG0 := ya hg0; clear hg0)
   | ((with_reducible show sl 13); refine z2l rfl rfl rfl HB.out ?_)
   | ((with_reducible show sn); refine z01 (vs := ptC (.slice none 0 0) 1) rfl rfl rfl rfl q0 (by rfl) (by rw [z42]; rfl) (z7q _ _ _ _) ?_; intro w9 ht9 b9))
  exact z02 rfl rfl rfl b9 z7e (by rw [z42]; rfl) ⟨_, rfl, yg.nil _ _, hb0.trans (ht9.below _ (by have := HG0.out; omega))⟩
 ·have d0 : decide (i < 0) = false := by simpa using h0
  have d1 : decide (i ≥ (n : Int)) = true := by simp; omega
  go_enter Tryz.func87, Tryz.ntmps87
  go_wp2_with (first
   | ((with_reducible show sl 4); refine z0t (cs := ptC (.slice none 0 0) 0) rfl rfl z81 ?_; intro w0 g0 hg0 q0 hb0 lt0; have HG0 := ya hg0; clear hg0)
   | ((with_reducible show sl 13); refine z2l rfl rfl rfl HB.out ?_)
   | ((with_reducible show sn); refine z01 (vs := ptC (.slice none 0 0) 1) rfl rfl rfl rfl q0 (by rfl) (by rw [z42]; rfl) (z7q _ _ _ _) ?_; intro w9 ht9 b9))
  exact z02 rfl rfl rfl b9 z7e (by rw [z42]; rfl) ⟨_, rfl, yg.nil _ _, hb0.trans (ht9.below _ (by have := HG0.out; omega))⟩
theorem ztd {nd : Nat → Nat → Nat} {em : Nat} (N : Nds nd em) (l : List Nat) (i : Int) (A : Option Addr) (n c : Nat) (w : World) (hn : n ≤ 1000000) (hr : RdD w A n l) (hnc : n ≤ c) (hcm : c ≤ maxLen) (hg : RCon w) :
  Calls Tryz.prog 87 #[.slice A n c, .int .i64 i] w (z5r (z21 nd em l i) w) := by
 have hl := hr.len
 unfold z21
 by_cases h : 0 ≤ i ∧ i < l.length
 ·rw [if_pos h]
  obtain ⟨k, rfl⟩ : ∃ k : Nat, i = k := ⟨i.toNat, by omega⟩
  have hk : k < n := by omega
  have HI := ya (fun (W : World) (hb : Below w.heap.size w W) => ztc N n l k A n c W (Nat.le_refl _) hn hk (hr.below hb) hnc hcm (hg.below hb))
  rw [Int.toNat_natCast]
  clear hr hg h hl
  generalize Merk.incl nd em l k = P at *
  have HBL := ya zhq
  have d0 : decide ((k : Int) < 0) = false := by simp
  have d1 : decide ((k : Int) ≥ (n : Int)) = false := by simp; omega
  unfold z3q at HI
  unfold z5r
  go_enter Tryz.func87, Tryz.ntmps87
  go_upto_region 3 with ((with_reducible show sl 4); refine z0t (cs := ptC (.slice none 0 0) 0) rfl rfl z81 ?_; intro w0 g0 hg0 q0 hb0 lt0; have HG0 := ya hg0; clear hg0)
  go_wp2_with fail
  refine (HI.out _ hb0).mono ?_
  rintro e w5 ⟨v5, rfl, hown5, hb5⟩
  obtain ⟨A5, c5, rfl, -, -, -⟩ := hown5.form
  have q5 := q0.below hb5
  have hB5 := HBL.out A5 P.length c5
  go_wp2_with (first
   | ((with_reducible show sl 17); refine z2l rfl rfl rfl hB5 ?_)
   | ((with_reducible show sn); refine z01 (vs := ptC (.slice A5 P.length c5) 0) rfl rfl rfl rfl q5 (by rfl) (by rw [z42]; rfl) (z7q _ _ _ _) ?_; intro w9 ht9 b9))
  exact z02 rfl rfl rfl b9 z7e (by rw [z42]; rfl) ⟨_, rfl, z5y (ht9.own hown5 (fun e => by have h1 := (World.ownsRow.lt hown5 _ e).1; have := HG0.out; have := lt0; omega)) hb0.size, (yb hb0 hb5).trans (ht9.below _ (by have := HG0.out; omega))⟩
 ·rw [if_neg h]
  exact zte l i A n c w (by omega)
theorem Merk.csy_true (nd : Nat → Nat → Nat) (em : Nat) {l : List Nat} {m : Nat} (h : m = l.length) : Merk.csy nd em l m true = [] := by rw [Merk.csy, if_pos h, if_pos rfl]
theorem Merk.csy_false (nd : Nat → Nat → Nat) (em : Nat) {l : List Nat} {m : Nat} (h : m = l.length) : Merk.csy nd em l m false = [Merk.root nd em l] := by rw [Merk.csy, if_pos h, if_neg (by simp)]
theorem Merk.csy_left (nd : Nat → Nat → Nat) (em : Nat) {l : List Nat} {m : Nat} (k : Bool) (h : m ≠ l.length) (h2 : 2 ≤ l.length) (hi : m ≤ Merk.split l.length) : Merk.csy nd em l m k = Merk.csy nd em (l.take (Merk.split l.length)) m k ++ [Merk.root nd em (l.drop (Merk.split l.length))] := by
 rw [Merk.csy, if_neg h, dif_pos h2, if_pos hi]
theorem Merk.csy_right (nd : Nat → Nat → Nat) (em : Nat) {l : List Nat} {m : Nat} (k : Bool) (h : m ≠ l.length) (h2 : 2 ≤ l.length) (hi : ¬ m ≤ Merk.split l.length) : Merk.csy nd em l m k = Merk.csy nd em (l.drop (Merk.split l.length)) (m - Merk.split l.length) false ++ [Merk.root nd em (l.take (Merk.split l.length))] := by
 rw [Merk.csy, if_neg h, dif_pos h2, if_neg hi]
theorem Merk.csy_len (nd : Nat → Nat → Nat) (em : Nat) (K : Nat) : ∀ (l : List Nat) (m : Nat) (k : Bool), l.length ≤ K → 1 ≤ m → m ≤ l.length → (Merk.csy nd em l m k).length ≤ l.length := by
 induction K with
 | zero => intro l m k h h1 h2; omega
 | succ K ih =>
  intro l m k h h1 h2
  by_cases he : m = l.length
  ·cases k
   ·rw [Merk.csy_false nd em he]; simp; omega
   ·rw [Merk.csy_true nd em he]; simp
  ·have h3 := Merk.split_lt (n := l.length) (by omega)
   have h4 := Merk.split_pos l.length
   by_cases hi : m ≤ Merk.split l.length
   ·rw [Merk.csy_left nd em k he (by omega) hi, List.length_append]; have := ih (l.take (Merk.split l.length)) m k (by simp; omega) h1 (by simp; omega); simp at this ⊢; omega
   ·rw [Merk.csy_right nd em k he (by omega) hi, List.length_append]; have := ih (l.drop (Merk.split l.length)) (m - Merk.split l.length) false (by simp; omega) (by omega) (by simp; omega); simp at this ⊢; omega
theorem zwz {w : World} {ops : Array Oper} {rest : List Oper} {o : Oper} {a : Act} {Q : Exit → Act → World → Prop} (hgd : o.guard = none) {y : Operand} {n : Nat} (ho : o.op = .buildSlice 37 1 #[(0, y)]) (hy : a.eval y = dgV n)
  (h : ∀ w' v, yg w' w.heap.size v [n] → Below w.heap.size w w' → wpList Tryz.prog ops Q rest (a.put o.dst v) w') : wpList Tryz.prog ops Q (o :: rest) a w := by
 refine wpList_plain hgd fun K hK => ?_
 have h0 : yg (w.alloc (.cells (dgC n) 25)) w.heap.size (.slice (some ⟨w.heap.size, 0, none⟩) 1 1) [n] := by
  refine ⟨by simp [z2b, z2a], .inr ⟨w.heap.size, 1, dgC n, rfl, Nat.le_refl _, Blk.new _ _ _, Nat.le_refl _, by simp [maxLen], by rw [yc], ?_⟩⟩
  simp only [z2b, dgC, List.flatMap_cons, List.flatMap_nil, List.append_nil, List.length_cons, List.length_nil]
  exact List.take_of_length_le (by rw [z03]; omega)
 have h2 := h _ _ h0 ((Below.refl _ _).alloc (Nat.le_refl _) _)
 unfold Oper.wp execOp
 simp only [ho, List.map_toArray, List.map_cons, List.map_nil, hy, zed, Sem.run_bind, Result.andThen_ok, Sem.run_pure]
 exact hK _ _ h2
theorem zsz {nd : Nat → Nat → Nat} {em : Nat} (N : Nds nd em) (K : Nat) : ∀ (l : List Nat) (i : Nat) (mk : Bool) (A : Option Addr) (n c : Nat) (w : World), n ≤ K → n ≤ 1000000 → 1 ≤ i → i ≤ n → RdD w A n l → n ≤ c → c ≤ maxLen → RCon w →
  Calls Tryz.prog 128 #[.slice A n c, .int .i64 i, .bool mk] w (z3q (Merk.csy nd em l i mk) w) := by
 induction K with
 | zero => intro l i mk A n c w hK hn hi hi2; omega
 | succ K ih =>
  intro l i mk A n c w hK hn hi hi2 hr hnc hcm hg
  have hl := hr.len
  by_cases h1 : i = n
  ·have e1 : ((i : Int) == n) = true := by simp; omega
   cases mk with
   | true =>
    rw [Merk.csy_true nd em (by omega)]
    unfold z3q
    clear hr hg
    go_enter Tryz.func128, Tryz.ntmps128
    go_wp2_with fail
    go_ret
    exact ⟨_, rfl, yg.nil _ _, Below.refl _ _⟩
   | false =>
    rw [Merk.csy_false nd em (by omega)]
    have HR := ya (z9s N n l A n c w (Nat.le_refl _) hn hr hnc hcm hg)
    generalize Merk.root nd em l = X at *
    unfold z2z at HR
    unfold z3q
    clear hr hg
    go_enter Tryz.func128, Tryz.ntmps128
    go_wp2_with fail
    refine HR.out.mono ?_
    rintro e w1 ⟨rfl, hb1⟩
    go_wp2_with ((with_reducible show sl 15); refine zwz rfl rfl rfl ?_; intro w2 v2 hown2 hb2)
    go_ret
    exact ⟨_, rfl, hown2.lower hb1.size, yb hb1 hb2⟩
  ·have hk1 := Merk.split_lt (n := n) (by omega)
   have hk0 := Merk.split_pos n
   have HS := ya (fun W => zg4 n W (by omega) (by omega))
   have hcm2 : c ≤ 9223372036854775807 := hcm
   have e1 : ((i : Int) == n) = false := by simp; omega
   have HRT := ya (fun (W : World) (hb : Below w.heap.size w W) => z9s N n (l.take (Merk.split n)) A (Merk.split n) c W (by omega) (by omega) ((hr.below hb).take (by omega)) (by omega) hcm (hg.below hb))
   have HRD := ya (fun (W : World) (hb : Below w.heap.size w W) => z9s N n (l.drop (Merk.split n)) (if c = Merk.split n then A else A.map (·.add (Merk.split n * 16))) (n - Merk.split n) (c - Merk.split n) W (by omega) (by omega) ((hr.below hb).drop (by omega) hnc) (by omega) (by omega) (hg.below hb))
   by_cases hik : i ≤ Merk.split n
   ·have hx := Merk.csy_left nd em (l := l) (m := i) mk (by omega) (by omega) (by rw [hl]; exact hik)
    rw [hl] at hx
    have hpl := Merk.csy_len nd em _ (l.take (Merk.split n)) i mk (Nat.le_refl _) hi (by simp; omega)
    rw [List.length_take] at hpl
    have HI := ya (fun (W : World) (hb : Below w.heap.size w W) => ih (l.take (Merk.split n)) i mk A (Merk.split n) c W (by omega) (by omega) hi hik ((hr.below hb).take (by omega)) (by omega) hcm (hg.below hb))
    rw [hx]
    clear hx ih HRT hr hg hcm hl
    have HPL : Hid ((Merk.csy nd em (l.take (Merk.split n)) i mk).length ≤ 1000000) := ya (by omega)
    clear hpl
    generalize Merk.root nd em (l.drop (Merk.split n)) = X at *
    generalize Merk.csy nd em (l.take (Merk.split n)) i mk = P at *
    generalize Merk.split n = k at *
    unfold z3q at HI ⊢
    unfold z2z at HRD
    have hik2 : (i : Int) ≤ (k : Int) := by omega
    go_enter Tryz.func128, Tryz.ntmps128
    go_upto_region 7 with (go_at_call 109; refine (HS.out _).mono ?_; rintro e w1 ⟨rfl, rfl⟩)
    have hb0 := Below.refl w1.heap.size w1
    have hS : Below w1.heap.size w1 w1.drew := (Below.refl _ _).drew
    refine yq 11 (by kernel_rfl) ?_
    refine WpT.tk 0 hS ?_
    simp only [nrm]
    refine WpT.tk 1 hS ?_
    simp only [nrm]
    refine WpT.tk 2 hS ?_
    simp only [nrm]
    refine WpT.tk 3 hS ?_
    simp only [nrm]
    refine WpT.tk 4 hS ?_
    simp only [nrm]
    refine WpT.tk 6 hS ?_
    simp only [nrm]
    refine WpT.tk 7 hS ?_
    simp only [nrm]
    refine WpT.tk 8 hS ?_
    simp only [nrm]
    refine WpT.on 5 rfl (fun K hK => ?_)
    go_simp; refine (HI.out _ hS).mono ?_; rintro e w5 ⟨v5, rfl, hown5, hb5⟩; obtain ⟨A5, c5, rfl, h51, h52, hr5⟩ := hown5.form; clear hown5; replace hS := yb hS hb5
    refine hK _ _ hS ?_; clear hK K; try simp only [nrm]
    refine WpT.on 9 rfl (fun K hK => ?_)
    go_simp; refine (HRD.out _ hS).mono ?_; rintro e w6 ⟨rfl, hb6⟩; replace hS := yb hS hb6; replace hr5 := hr5.below hb6
    refine hK _ _ hS ?_; clear hK K; try simp only [nrm]
    refine WpT.on 10 rfl (fun K hK => ?_)
    go_simp; refine (zdu P X A5 P.length c5 _ HPL.out hr5).mono ?_; unfold z3q; rintro e w7 ⟨v7, rfl, hown7, hb7⟩; replace hown7 := hown7.lower hS.size; replace hS := yb hS hb7
    refine hK _ _ hS ?_; clear hK K; try simp only [nrm]
    refine WpT.ta 11 rfl (fun K hK => ?_)
    go_simp; (try go_bits)
    refine hK _ _ ?_; clear hK K; try simp only [nrm]
    refine WpT.done (by kernel_rfl) ?_ _
    go_wp2_with fail; go_ret; exact ⟨_, rfl, hown7, hS⟩
   ·have hx := Merk.csy_right nd em (l := l) (m := i) mk (by omega) (by omega) (by rw [hl]; exact hik)
    rw [hl] at hx
    have hpl := Merk.csy_len nd em _ (l.drop (Merk.split n)) (i - Merk.split n) false (Nat.le_refl _) (by omega) (by simp; omega)
    rw [List.length_drop] at hpl
    have HI := ya (fun (W : World) (hb : Below w.heap.size w W) => ih (l.drop (Merk.split n)) (i - Merk.split n) false (if c = Merk.split n then A else A.map (·.add (Merk.split n * 16))) (n - Merk.split n) (c - Merk.split n) W (by omega) (by omega) (by omega) (by omega) ((hr.below hb).drop (by omega) hnc) (by omega) (by omega) (hg.below hb))
    rw [hx]
    have hcast : ((i - Merk.split n : Nat) : Int) = (i : Int) - (Merk.split n : Int) := by omega
    rw [hcast] at HI
    have HPL : Hid ((Merk.csy nd em (l.drop (Merk.split n)) (i - Merk.split n) false).length ≤ 1000000) := ya (by omega)
    clear hx ih HRD hr hg hcm hl hcast
    clear hpl
    generalize Merk.root nd em (l.take (Merk.split n)) = X at *
    generalize Merk.csy nd em (l.drop (Merk.split n)) (i - Merk.split n) false = P at *
    generalize Merk.split n = k at *
    unfold z3q at HI ⊢
    unfold z2z at HRT
    have hik2 : ¬ (i : Int) ≤ (k : Int) := by omega
    have hsub : 0 ≤ (i : Int) - (k : Int) ∧ (i : Int) - (k : Int) ≤ 1000000 := by omega
    have HW : Hid (wrap64 ((i : Int) - (k : Int)) = (i : Int) - (k : Int) ∧ IntKind.i64.wrap ((i : Int) - (k : Int)) = (i : Int) - (k : Int)) := ya ⟨by unfold wrap64; omega, wrap_small _ (by omega) (by omega)⟩
    go_enter Tryz.func128, Tryz.ntmps128
    go_upto_region 8 with (go_at_call 109; refine (HS.out _).mono ?_; rintro e w1 ⟨rfl, rfl⟩)
    have hS : Below w1.heap.size w1 w1.drew := (Below.refl _ _).drew
    refine yq 12 (by kernel_rfl) ?_
    refine WpT.tk 0 hS ?_
    simp only [nrm]
    refine WpT.tk 1 hS ?_
    simp only [nrm]
    refine WpT.tk 2 hS ?_
    simp only [nrm]
    refine WpT.tk 3 hS ?_
    simp only [nrm]
    refine WpT.tk 4 hS ?_
    simp only [nrm]
    refine WpT.tk 5 hS ?_
    simp only [nrm]
    refine WpT.tk 7 hS ?_
    simp only [nrm]
    refine WpT.tk 8 hS ?_
    simp only [nrm]
    refine WpT.tk 9 hS ?_
    simp only [nrm]
    refine WpT.on 6 rfl (fun K hK => ?_)
    go_simp; (try simp only [HW.out.1, HW.out.2]); refine (HI.out _ hS).mono ?_; rintro e w5 ⟨v5, rfl, hown5, hb5⟩; obtain ⟨A5, c5, rfl, h51, h52, hr5⟩ := hown5.form; clear hown5; replace hS := yb hS hb5
    refine hK _ _ hS ?_; clear hK K; try simp only [nrm]
    refine WpT.on 10 rfl (fun K hK => ?_)
    go_simp; refine (HRT.out _ hS).mono ?_; rintro e w6 ⟨rfl, hb6⟩; replace hS := yb hS hb6; replace hr5 := hr5.below hb6
    refine hK _ _ hS ?_; clear hK K; try simp only [nrm]
    refine WpT.on 11 rfl (fun K hK => ?_)
    go_simp; refine (zdu P X A5 P.length c5 _ HPL.out hr5).mono ?_; unfold z3q; rintro e w7 ⟨v7, rfl, hown7, hb7⟩; replace hown7 := hown7.lower hS.size; replace hS := yb hS hb7
    refine hK _ _ hS ?_; clear hK K; try simp only [nrm]
    refine WpT.ta 12 rfl (fun K hK => ?_)
    go_simp; (try go_bits)
    refine hK _ _ ?_; clear hK K; try simp only [nrm]
    refine WpT.done (by kernel_rfl) ?_ _
    go_wp2_with fail; go_ret; exact ⟨_, rfl, hown7, hS⟩
theorem zsx (l : List Nat) (i : Int) (A : Option Addr) (n c : Nat) (w : World) (h : i < 0 ∨ (n : Int) < i) :
  Calls Tryz.prog 88 #[.slice A n c, .int .i64 i] w (z5r ([], 1) w) := by
 have HB := ya (zhp 1)
 unfold z5r
 by_cases h0 : i < 0
 ·have d0 : decide (i < 0) = true := by simpa using h0
  go_enter Tryz.func88, Tryz.ntmps88
  go_wp2_with (first
   | ((with_reducible show sl 4); refine z0t (cs := ptC (.slice none 0 0) 0) rfl rfl z81 ?_; intro w0 g0 hg0 q0 hb0 lt0; have HG0 := ya hg0; clear hg0)
   | ((with_reducible show sl 13); refine z2l rfl rfl rfl HB.out ?_)
   | ((with_reducible show sn); refine z01 (vs := ptC (.slice none 0 0) 1) rfl rfl rfl rfl q0 (by rfl) (by rw [z42]; rfl) (z7q _ _ _ _) ?_; intro w9 ht9 b9))
  exact z02 rfl rfl rfl b9 z7e (by rw [z42]; rfl) ⟨_, rfl, yg.nil _ _, hb0.trans (ht9.below _ (by have := HG0.out; omega))⟩
 ·have d0 : decide (i < 0) = false := by simpa using h0
  have d1 : decide (i > (n : Int)) = true := by simp; omega
  go_enter Tryz.func88, Tryz.ntmps88
  go_wp2_with (first
   | ((with_reducible show sl 4); refine z0t (cs := ptC (.slice none 0 0) 0) rfl rfl z81 ?_; intro w0 g0 hg0 q0 hb0 lt0; have HG0 := ya hg0; clear hg0)
   | ((with_reducible show sl 13); refine z2l rfl rfl rfl HB.out ?_)
   | ((with_reducible show sn); refine z01 (vs := ptC (.slice none 0 0) 1) rfl rfl rfl rfl q0 (by rfl) (by rw [z42]; rfl) (z7q _ _ _ _) ?_; intro w9 ht9 b9))
  exact z02 rfl rfl rfl b9 z7e (by rw [z42]; rfl) ⟨_, rfl, yg.nil _ _, hb0.trans (ht9.below _ (by have := HG0.out; omega))⟩
theorem zsw {nd : Nat → Nat → Nat} {em : Nat} (N : Nds nd em) (l : List Nat) (i : Int) (A : Option Addr) (n c : Nat) (w : World) (hn : n ≤ 1000000) (hr : RdD w A n l) (hnc : n ≤ c) (hcm : c ≤ maxLen) (hg : RCon w) :
  Calls Tryz.prog 88 #[.slice A n c, .int .i64 i] w (z5r (z2s nd em l i) w) := by
 have hl := hr.len
 unfold z2s
 by_cases h : 0 ≤ i ∧ i ≤ l.length
 ·rw [if_pos h]
  obtain ⟨k, rfl⟩ : ∃ k : Nat, i = k := ⟨i.toNat, by omega⟩
  have hk : k ≤ n := by omega
  have d0 : decide ((k : Int) < 0) = false := by simp
  have d1 : decide ((k : Int) > (n : Int)) = false := by simp; omega
  by_cases h0 : (k : Int) = 0 ∨ (k : Int) = l.length
  ·rw [if_pos h0]
   have HB := ya zny
   unfold z5r
   clear hr hg
   by_cases h1 : k = 0
   ·have e0 : ((k : Int) == 0) = true := by simp; omega
    go_enter Tryz.func88, Tryz.ntmps88
    go_wp2_with (first
     | ((with_reducible show sl 4); refine z0t (cs := ptC (.slice none 0 0) 0) rfl rfl z81 ?_; intro w0 g0 hg0 q0 hb0 lt0; have HG0 := ya hg0; clear hg0)
     | ((with_reducible show sl 21); refine z4o rfl rfl HB.out ?_)
     | ((with_reducible show sn); refine z01 (vs := ptC (.slice none 0 0) 0) rfl rfl rfl rfl q0 (by rfl) (by rw [z42]; rfl) (z7q _ _ _ _) ?_; intro w9 ht9 b9))
    exact z02 rfl rfl rfl b9 z7e (by rw [z42]; rfl) ⟨_, rfl, yg.nil _ _, hb0.trans (ht9.below _ (by have := HG0.out; omega))⟩
   ·have e0 : ((k : Int) == 0) = false := by simp; omega
    have e1 : ((k : Int) == n) = true := by simp; omega
    go_enter Tryz.func88, Tryz.ntmps88
    go_wp2_with (first
     | ((with_reducible show sl 4); refine z0t (cs := ptC (.slice none 0 0) 0) rfl rfl z81 ?_; intro w0 g0 hg0 q0 hb0 lt0; have HG0 := ya hg0; clear hg0)
     | ((with_reducible show sl 21); refine z4o rfl rfl HB.out ?_)
     | ((with_reducible show sn); refine z01 (vs := ptC (.slice none 0 0) 0) rfl rfl rfl rfl q0 (by rfl) (by rw [z42]; rfl) (z7q _ _ _ _) ?_; intro w9 ht9 b9))
    exact z02 rfl rfl rfl b9 z7e (by rw [z42]; rfl) ⟨_, rfl, yg.nil _ _, hb0.trans (ht9.below _ (by have := HG0.out; omega))⟩
  ·rw [if_neg h0]
   have HI := ya (fun (W : World) (hb : Below w.heap.size w W) => zsz N n l k true A n c W (Nat.le_refl _) hn (by omega) hk (hr.below hb) hnc hcm (hg.below hb))
   rw [Int.toNat_natCast]
   have e0 : ((k : Int) == 0) = false := by simp; omega
   have e1 : ((k : Int) == n) = false := by simp; omega
   clear hr hg h hl h0
   generalize Merk.csy nd em l k true = P at *
   have HBL := ya zhq
   unfold z3q at HI
   unfold z5r
   go_enter Tryz.func88, Tryz.ntmps88
   go_upto_region 5 with ((with_reducible show sl 4); refine z0t (cs := ptC (.slice none 0 0) 0) rfl rfl z81 ?_; intro w0 g0 hg0 q0 hb0 lt0; have HG0 := ya hg0; clear hg0)
   go_wp2_with fail
   refine (HI.out _ hb0).mono ?_
   rintro e w5 ⟨v5, rfl, hown5, hb5⟩
   obtain ⟨A5, c5, rfl, -, -, -⟩ := hown5.form
   have q5 := q0.below hb5
   have hB5 := HBL.out A5 P.length c5
   go_wp2_with (first
    | ((with_reducible show sl 26); refine z2l rfl rfl rfl hB5 ?_)
    | ((with_reducible show sn); refine z01 (vs := ptC (.slice A5 P.length c5) 0) rfl rfl rfl rfl q5 (by rfl) (by rw [z42]; rfl) (z7q _ _ _ _) ?_; intro w9 ht9 b9))
   exact z02 rfl rfl rfl b9 z7e (by rw [z42]; rfl) ⟨_, rfl, z5y (ht9.own hown5 (fun e => by have h1 := (World.ownsRow.lt hown5 _ e).1; have := HG0.out; have := lt0; omega)) hb0.size, (yb hb0 hb5).trans (ht9.below _ (by have := HG0.out; omega))⟩
 ·rw [if_neg h]
  exact zsx l i A n c w (by omega)
theorem z43 {P : Program} {ops : Array Oper} {S : World → Prop} {o : Oper} {a : Act} {t : TypeId} {x : Operand} {p : Addr} {v : Value} (ho : o.op = .load t x) (hg : o.guard = none) (ha : a.eval x = .pointer (some p))
  (hu : (P.underlying t).map z0b = some false) (hc : ∀ W, S W → W.cell? p = some v) : YieldsIf P ops S o v a := by
 refine .inl ⟨by simp [Region.wanted, hg], fun w hS => ?_⟩
 unfold execOp
 simp only [ho, ha, Instr.loadAt, Instr.sureAddr, Sem.run_bind, Sem.run_pure, Result.andThen_ok, z9v w p t v hu (hc w hS)]
theorem zba {w : World} {B : Nat} {e : TypeId} {k : Nat} {v : Value} {n : Nat} {xs : List Value} (h : w.ownsRow B e k v n xs) {g : Nat} (hg : g < B) : v.ownBlock ≠ some g := fun e2 => by
 rcases h.2 with ⟨rfl, _⟩ | ⟨g2, cap2, cur2, rfl, h3, _⟩
 ·cases e2
 ·have : g2 = g := Option.some.inj e2
  omega
theorem zbb {w : World} {B : Nat} {e : TypeId} {k n : Nat} {v : Value} {xs : List Value} (h : w.ownsRow B e k v n xs) : v.oneCell' = true := by
 rcases h.2 with ⟨rfl, _⟩ | ⟨_, _, _, rfl, _⟩ <;> rfl
theorem zhi {w w' : World} {g : Nat} {t : TypeId} {cs : Array Value} {row : Option Nat} (h : Blk w g t cs) (hg : w.grownBy w' row) (hn : row ≠ some g) : Blk w' g t cs := (hg.block g h.lt (fun e => hn e.symm)).trans h
theorem z27 {P : Program} {ops : Array Oper} {Q : Exit → Act → World → Prop} {id : Nat} {a : Act} {w : World} {S : World → Prop} (t : Nat) (hm : P.follows .mixedOrders = true)
  (h : WpT P ops Q S t ops.size (Array.replicate ops.size false) a w.drew) : (Code.region id ops true).wp P Q a w :=
 wp_region_any hm (WpT.any _ _ _ _ h)
structure Pos (w0 : World) (gp gt B : Nat) : Prop where
 p : w0.heap.size ≤ gp
 t : w0.heap.size ≤ gt
 ne : gp ≠ gt
 pB : gp < B
 tB : gt < B
structure z44 (w0 : World) (gp gt B : Nat) (tf : TypeId) (F v : Value) (W : World) : Prop where
 old : Below w0.heap.size w0 W
 fn : Blk W gp tf #[F]
 var : Blk W gt 37 #[v]
 sz : B ≤ W.heap.size
section
variable {w0 W W' : World} {gp gt B : Nat} {tf : TypeId} {F v v' : Value}
theorem z44.below (h : z44 w0 gp gt B tf F v W) (hb : Below W.heap.size W W') : z44 w0 gp gt B tf F v W' :=
 ⟨yb h.old hb, h.fn.below hb, h.var.below hb, Nat.le_trans h.sz hb.size⟩
theorem z44.grown (h : z44 w0 gp gt B tf F v W) (hp : Pos w0 gp gt B) {row : Option Nat} (hg : W.grownBy W' row) (hb : Below B W W') (hr : ∀ g, row = some g → B ≤ g) : z44 w0 gp gt B tf F v W' :=
 ⟨h.old.trans (hb.mono (by have := hp.p; have := hp.pB; omega)), zhi h.fn hg (fun e => by have := hr _ e; have := hp.pB; omega), zhi h.var hg (fun e => by have := hr _ e; have := hp.tB; omega), Nat.le_trans h.sz hb.size⟩
theorem z44.turned (h : z44 w0 gp gt B tf F v W) (hp : Pos w0 gp gt B) (ht : z0w gt W W') (hv : Blk W' gt 37 #[v']) : z44 w0 gp gt B tf F v' W' :=
 ⟨h.old.trans (ht.below _ hp.t), ht.blk h.fn hp.ne, hv, by rw [ht.size]; exact h.sz⟩
theorem zbc {w : World} {B : Nat} {e : TypeId} {k n : Nat} {v : Value} {xs : List Value} (h : w.ownsRow B e k v n xs) : ∀ g, v.ownBlock = some g → B ≤ g := fun g e => (World.ownsRow.lt h g e).1
end
def Acc (w0 : World) (gp gt B : Nat) (tf : TypeId) (F : Value) (P : List Nat) (W : World) : Prop := ∃ v, z44 w0 gp gt B tf F v W ∧ yg W B v P
theorem Acc.below {w0 W W' : World} {gp gt B : Nat} {tf : TypeId} {F : Value} {P : List Nat} (h : Acc w0 gp gt B tf F P W) (hb : Below W.heap.size W W') : Acc w0 gp gt B tf F P W' := by
 obtain ⟨v, h1, h2⟩ := h
 exact ⟨v, h1.below hb, h2.below hb⟩
def z5n (w0 : World) (gp gt B : Nat) (tf : TypeId) (F : Value) (P : List Nat) (e : Ending) (w' : World) : Prop := e = .returned (.tuple #[]) ∧ Acc w0 gp gt B tf F P w'
abbrev fnV (f : FuncId) (caps : List Nat) : Value := .func (.func f) #[] (caps.map fun g => Value.pointer (some ⟨g, 0, none⟩)).toArray
theorem zqk {nd : Nat → Nat → Nat} {em : Nat} (N : Nds nd em) (w0 : World) (gp gt B : Nat) (hpos : Pos w0 gp gt B) (hg : GCon w0) (K : Nat) : ∀ (l : List Nat) (i : Nat) (A : Option Addr) (n c : Nat) (P : List Nat) (w : World), n ≤ K → n ≤ 1000000 → P.length + n ≤ 2000000 → i < n → RdD w0 A n l → n ≤ c → c ≤ maxLen →
  Acc w0 gp gt B 163 (fnV 125 [gp, gt]) P w →
  Calls Tryz.prog 125 #[.slice A n c, .int .i64 i, .pointer (some ⟨gp, 0, none⟩), .pointer (some ⟨gt, 0, none⟩)] w (z5n w0 gp gt B 163 (fnV 125 [gp, gt]) (P ++ Merk.incl nd em l i)) := by
 induction K with
 | zero => intro l i A n c P w hK hn hP hi; omega
 | succ K ih =>
  intro l i A n c P w hK hn hP hi hr hnc hcm hacc
  have hl := hr.len
  by_cases h1 : n = 1
  ·subst h1
   rw [Merk.incl_one nd em (by omega), List.append_nil]
   unfold z5n
   go_enter Tryz.func125, Tryz.ntmps125
   go_wp2_with fail
   refine bodyPost_ret (results_none rfl _ _ _) rfl ?_
   exact ⟨rfl, hacc⟩
  ·have hk1 := Merk.split_lt (n := n) (by omega)
   have hk0 := Merk.split_pos n
   have HS := ya (fun W => zbj n W (by omega) (by omega))
   have hcm2 : c ≤ 9223372036854775807 := hcm
   have e1 : ((n : Int) == 1) = false := by simp; omega
   by_cases hik : i < Merk.split n
   ·
    have hx := Merk.incl_left nd em (l := l) (i := i) (by omega) (by rw [hl]; exact hik)
    rw [hl] at hx
    have hpl := Merk.incl_len nd em _ (l.take (Merk.split n)) i (Nat.le_refl _)
    rw [List.length_take] at hpl
    have HI := ya (fun (W : World) (h : Acc w0 gp gt B 163 (fnV 125 [gp, gt]) P W) => ih (l.take (Merk.split n)) i A (Merk.split n) (Merk.split n) P W (by omega) (by omega) (by omega) hik (hr.take (by omega)) (Nat.le_refl _) (by omega) h)
    have HRT := ya (fun (W : World) (hb : Below w0.heap.size w0 W) => z9t N n (l.drop (Merk.split n)) (if c = Merk.split n then A else A.map (·.add (Merk.split n * 16))) (n - Merk.split n) (c - Merk.split n) W (by omega) (by omega) ((hr.drop (by omega) hnc).below hb) (by omega) (by omega) (hg.below hb))
    rw [hx, ← List.append_assoc]
    have HPL : Hid (P.length + (Merk.incl nd em (l.take (Merk.split n)) i).length + 1 ≤ 3000000) := ya (by omega)
    clear hx ih hr hcm hl hpl 
    generalize Merk.root nd em (l.drop (Merk.split n)) = X at *
    generalize Merk.incl nd em (l.take (Merk.split n)) i = Q at *
    generalize Merk.split n = k at *
    obtain ⟨v, hSv, hownv⟩ := hacc
    have hfn := hSv.fn.below (Below.refl w.heap.size w).drew
    have hacc2 : Acc w0 gp gt B 163 (fnV 125 [gp, gt]) P w.drew := Acc.below ⟨v, hSv, hownv⟩ (Below.refl _ _).drew
    have HACC := ya hacc2
    clear hSv hownv hacc2
    unfold z5n at HI ⊢
    unfold z2z at HRT
    have HPQ : Hid ((P ++ Q).length + 1 ≤ 3000000) := ya (by rw [List.length_append]; exact HPL.out)
    generalize P ++ Q = PQ at *
    generalize hF : fnV 125 [gp, gt] = F at *
    have HF := ya hF.symm
    clear hF
    have hik2 : (i : Int) < (k : Int) := by omega
    go_enter Tryz.func125, Tryz.ntmps125
    go_upto_region 3 with (go_at_call 113; refine (HS.out _).mono ?_; rintro e w1 ⟨rfl, rfl⟩)
    rw [HF.out] at hfn
    refine z27 (S := fun W => Blk W gp 163 #[fnV 125 [gp, gt]]) 7 (by kernel_rfl) ?_
    refine WpT.tl 0 rfl (z43 rfl rfl rfl (by kernel_rfl) (fun W h => h.cell 0)) hfn ?_
    simp only [nrm]
    refine WpT.tk 1 hfn ?_
    simp only [nrm]
    refine WpT.tk 2 hfn ?_
    simp only [nrm]
    refine WpT.tk 3 hfn ?_
    simp only [nrm]
    refine WpT.tk 4 hfn ?_
    simp only [nrm]
    refine WpT.tk 5 hfn ?_
    simp only [nrm]
    refine WpT.on 6 rfl (fun K hK => ?_)
    go_simp; refine (HI.out _ HACC.out).mono ?_; rintro e w5 ⟨rfl, v5, hS5, hown5⟩; have hfn5 := hS5.fn; rw [HF.out] at hfn5
    refine hK _ _ hfn5 ?_; clear hK K; try simp only [nrm]
    refine WpT.done (by kernel_rfl) ?_ _
    skip
    clear hfn hfn5 HACC
    have hS := hS5.below (Below.refl w5.heap.size w5).drew
    replace hown5 := hown5.below (Below.refl w5.heap.size w5).drew
    clear hS5
    go_upto_region 4 with (fail)
    refine z27 (S := z44 w0 gp gt B 163 F v5) 7 (by kernel_rfl) ?_
    refine WpT.tl 0 rfl (z43 rfl rfl rfl (by kernel_rfl) (fun W h => h.var.cell 0)) hS ?_
    simp only [nrm]
    refine WpT.tk 1 hS ?_
    simp only [nrm]
    refine WpT.tk 2 hS ?_
    simp only [nrm]
    refine WpT.tk 3 hS ?_
    simp only [nrm]
    refine WpT.on 4 rfl (fun K hK => ?_)
    go_simp; refine (HRT.out _ hS.old).mono ?_; rintro e w6 ⟨rfl, hb6⟩; replace hS := hS.below hb6; replace hown5 := hown5.below hb6
    refine hK _ _ hS ?_; clear hK K; try simp only [nrm]
    refine WpT.on 5 rfl (fun K hK => ?_)
    refine (if_pos (by rfl)).mpr ?_; refine z7z rfl (by rfl) ?_; intro w7 g7 hg7 hr7 hb7; clear hg7; replace hS := hS.below hb7; replace hown5 := hown5.below hb7
    refine hK _ _ hS ?_; clear hK K; try simp only [nrm]
    refine WpT.on 6 rfl (fun K hK => ?_)
    refine (if_pos (by rfl)).mpr ?_; refine z4c rfl z38 (by rfl) hown5 (by rfl) (m := 1) hr7 (z3b [X]) (by have := HPQ.out; omega) hS.sz ?_; intro v8 w8 hown8 hg8 hb8; replace hS := hS.grown hpos hg8 hb8 (zbc hown5); replace hown8 : yg w8 B v8 (PQ ++ [X]) := yg.app hown8
    refine hK _ _ hS ?_; clear hK K; try simp only [nrm]
    refine WpT.ta 7 rfl (fun K hK => ?_)
    refine (if_pos (by rfl)).mpr ?_; refine z77 (j := 0) (v := v8) (cs' := #[v8]) rfl (by kernel_rfl) (by rfl) (by rfl) (zbb hown8) hS.var (by simp) (by simp) ?_; intro w9 ht9 b9
    refine hK _ _ ?_; clear hK K; try simp only [nrm]
    refine WpT.done (by kernel_rfl) ?_ _
    skip
    have hfin : Acc w0 gp gt B 163 F (PQ ++ [X]) w9 := ⟨v8, hS.turned hpos ht9 b9, ht9.own hown8 (zba hown8 hpos.tB)⟩
    clear hS hown8 hown5 ht9 b9
    go_wp2_with fail
    refine bodyPost_end (results_none rfl _ _ _) rfl ?_
    exact ⟨rfl, hfin⟩
   ·
    have hx := Merk.incl_right nd em (l := l) (i := i) (by omega) (by rw [hl]; exact hik)
    rw [hl] at hx
    have hpl := Merk.incl_len nd em _ (l.drop (Merk.split n)) (i - Merk.split n) (Nat.le_refl _)
    rw [List.length_drop] at hpl
    have HI := ya (fun (W : World) (h : Acc w0 gp gt B 163 (fnV 125 [gp, gt]) P W) => ih (l.drop (Merk.split n)) (i - Merk.split n) (if c = Merk.split n then A else A.map (·.add (Merk.split n * 16))) (n - Merk.split n) (c - Merk.split n) P W (by omega) (by omega) (by omega) (by omega) (hr.drop (by omega) hnc) (by omega) (by omega) h)
    have HRT := ya (fun (W : World) (hb : Below w0.heap.size w0 W) => z9t N n (l.take (Merk.split n)) A (Merk.split n) (Merk.split n) W (by omega) (by omega) ((hr.take (by omega)).below hb) (Nat.le_refl _) (by omega) (hg.below hb))
    rw [hx, ← List.append_assoc]
    have hcast : ((i - Merk.split n : Nat) : Int) = (i : Int) - (Merk.split n : Int) := by omega
    rw [hcast] at HI
    have HPL : Hid (P.length + (Merk.incl nd em (l.drop (Merk.split n)) (i - Merk.split n)).length + 1 ≤ 3000000) := ya (by omega)
    clear hx ih hr hcm hl hpl hcast
    generalize Merk.root nd em (l.take (Merk.split n)) = X at *
    generalize Merk.incl nd em (l.drop (Merk.split n)) (i - Merk.split n) = Q at *
    generalize Merk.split n = k at *
    obtain ⟨v, hSv, hownv⟩ := hacc
    have hfn := hSv.fn.below (Below.refl w.heap.size w).drew
    have hacc2 : Acc w0 gp gt B 163 (fnV 125 [gp, gt]) P w.drew := Acc.below ⟨v, hSv, hownv⟩ (Below.refl _ _).drew
    have HACC := ya hacc2
    clear hSv hownv hacc2
    unfold z5n at HI ⊢
    unfold z2z at HRT
    have HPQ : Hid ((P ++ Q).length + 1 ≤ 3000000) := ya (by rw [List.length_append]; exact HPL.out)
    generalize P ++ Q = PQ at *
    generalize hF : fnV 125 [gp, gt] = F at *
    have HF := ya hF.symm
    clear hF
    have hik2 : ¬ (i : Int) < (k : Int) := by omega
    have hsub : 0 ≤ (i : Int) - (k : Int) ∧ (i : Int) - (k : Int) ≤ 1000000 := by omega
    have HW : Hid (wrap64 ((i : Int) - (k : Int)) = (i : Int) - (k : Int) ∧ IntKind.i64.wrap ((i : Int) - (k : Int)) = (i : Int) - (k : Int)) := ya ⟨by unfold wrap64; omega, wrap_small _ (by omega) (by omega)⟩
    go_enter Tryz.func125, Tryz.ntmps125
    go_upto_region 5 with (go_at_call 113; refine (HS.out _).mono ?_; rintro e w1 ⟨rfl, rfl⟩)
    rw [HF.out] at hfn
    refine z27 (S := fun W => Blk W gp 163 #[fnV 125 [gp, gt]]) 8 (by kernel_rfl) ?_
    refine WpT.tl 0 rfl (z43 rfl rfl rfl (by kernel_rfl) (fun W h => h.cell 0)) hfn ?_
    simp only [nrm]
    refine WpT.tk 1 hfn ?_
    simp only [nrm]
    refine WpT.tk 2 hfn ?_
    simp only [nrm]
    refine WpT.tk 3 hfn ?_
    simp only [nrm]
    refine WpT.tk 4 hfn ?_
    simp only [nrm]
    refine WpT.tk 5 hfn ?_
    simp only [nrm]
    refine WpT.tk 6 hfn ?_
    simp only [nrm]
    refine WpT.on 7 rfl (fun K hK => ?_)
    go_simp; (try simp only [HW.out.1, HW.out.2]); refine (HI.out _ HACC.out).mono ?_; rintro e w5 ⟨rfl, v5, hS5, hown5⟩; have hfn5 := hS5.fn; rw [HF.out] at hfn5
    refine hK _ _ hfn5 ?_; clear hK K; try simp only [nrm]
    refine WpT.done (by kernel_rfl) ?_ _
    skip
    clear hfn hfn5 HACC
    have hS := hS5.below (Below.refl w5.heap.size w5).drew
    replace hown5 := hown5.below (Below.refl w5.heap.size w5).drew
    clear hS5
    go_upto_region 6 with (fail)
    refine z27 (S := z44 w0 gp gt B 163 F v5) 8 (by kernel_rfl) ?_
    refine WpT.tl 0 rfl (z43 rfl rfl rfl (by kernel_rfl) (fun W h => h.var.cell 0)) hS ?_
    simp only [nrm]
    refine WpT.tk 1 hS ?_
    simp only [nrm]
    refine WpT.tk 2 hS ?_
    simp only [nrm]
    refine WpT.tk 3 hS ?_
    simp only [nrm]
    refine WpT.tk 4 hS ?_
    simp only [nrm]
    refine WpT.on 5 rfl (fun K hK => ?_)
    go_simp; refine (HRT.out _ hS.old).mono ?_; rintro e w6 ⟨rfl, hb6⟩; replace hS := hS.below hb6; replace hown5 := hown5.below hb6
    refine hK _ _ hS ?_; clear hK K; try simp only [nrm]
    refine WpT.on 6 rfl (fun K hK => ?_)
    refine (if_pos (by rfl)).mpr ?_; refine z7z rfl (by rfl) ?_; intro w7 g7 hg7 hr7 hb7; clear hg7; replace hS := hS.below hb7; replace hown5 := hown5.below hb7
    refine hK _ _ hS ?_; clear hK K; try simp only [nrm]
    refine WpT.on 7 rfl (fun K hK => ?_)
    refine (if_pos (by rfl)).mpr ?_; refine z4c rfl z38 (by rfl) hown5 (by rfl) (m := 1) hr7 (z3b [X]) (by have := HPQ.out; omega) hS.sz ?_; intro v8 w8 hown8 hg8 hb8; replace hS := hS.grown hpos hg8 hb8 (zbc hown5); replace hown8 : yg w8 B v8 (PQ ++ [X]) := yg.app hown8
    refine hK _ _ hS ?_; clear hK K; try simp only [nrm]
    refine WpT.ta 8 rfl (fun K hK => ?_)
    refine (if_pos (by rfl)).mpr ?_; refine z77 (j := 0) (v := v8) (cs' := #[v8]) rfl (by kernel_rfl) (by rfl) (by rfl) (zbb hown8) hS.var (by simp) (by simp) ?_; intro w9 ht9 b9
    refine hK _ _ ?_; clear hK K; try simp only [nrm]
    refine WpT.done (by kernel_rfl) ?_ _
    skip
    have hfin : Acc w0 gp gt B 163 F (PQ ++ [X]) w9 := ⟨v8, hS.turned hpos ht9 b9, ht9.own hown8 (zba hown8 hpos.tB)⟩
    clear hS hown8 hown5 ht9 b9
    go_wp2_with fail
    refine bodyPost_end (results_none rfl _ _ _) rfl ?_
    exact ⟨rfl, hfin⟩
def z35 (p : List Nat × Int) (w : World) (e : Ending) (w' : World) : Prop := ∃ v, e = .returned (.tuple #[v, .int .i64 p.2]) ∧ yg w' w.heap.size v p.1 ∧ Below w.heap.size w w'
theorem zqm {nd : Nat → Nat → Nat} {em : Nat} (N : Nds nd em) (l : List Nat) (i : Nat) (A : Option Addr) (n c : Nat) (w : World) (hn : n ≤ 1000000) (hi : i < n) (hr : RdD w A n l) (hnc : n ≤ c) (hcm : c ≤ maxLen) (hg : GCon w) :
  Calls Tryz.prog 83 #[.slice A n c, .int .i64 i] w (z35 (Merk.incl nd em l i, 0) w) := by
 have hmf : ∀ (fn : Fn) (first cap : Array Value) (w : World), (Instr.makeFunc fn first cap).run Tryz.prog w = .ok (.func fn first cap) w := fun _ _ _ _ => rfl
 have d0 : decide ((i : Int) < 0) = false := by simp
 have d1 : decide ((i : Int) ≥ (n : Int)) = false := by simp; omega
 have HI := ya (fun (gp gt B : Nat) (hpos : Pos w gp gt B) (W : World) (h : Acc w gp gt B 163 (fnV 125 [gp, gt]) [] W) => zqk N w gp gt B hpos hg n l i A n c [] W (Nat.le_refl _) hn (by simp; omega) hi hr hnc hcm h)
 simp only [List.nil_append] at HI
 clear hr hg hcm
 generalize Merk.incl nd em l i = P at *
 unfold z5n at HI
 unfold z35
 go_enter Tryz.func83, Tryz.ntmps83
 go_upto_region 5 with (fail)
 change Code.wp _ _ _ _ ((w.alloc (.cells #[.slice none 0 0] 37)).alloc (.cells #[.nilFunc] 163))
 obtain ⟨wa, hwa, hb0, q0, q1, hsz⟩ : ∃ wa : World, wa = (w.alloc (.cells #[.slice none 0 0] 37)).alloc (.cells #[.nilFunc] 163) ∧ Below w.heap.size w wa ∧ Blk wa w.heap.size 37 #[.slice none 0 0] ∧ Blk wa (w.heap.size + 1) 163 #[.nilFunc] ∧ wa.heap.size = w.heap.size + 2 :=
  ⟨_, rfl, ((Below.refl w.heap.size w).alloc (Nat.le_refl _) _).alloc (by simp) _, (Blk.new _ _ _).alloc _, Blk.new2 _ _ _ _, by simp⟩
 rw [← hwa]
 clear hwa
 obtain ⟨gt, hgt⟩ : ∃ g, g = w.heap.size := ⟨_, rfl⟩
 obtain ⟨gp, hgp⟩ : ∃ g, g = w.heap.size + 1 := ⟨_, rfl⟩
 rw [← hgt] at q0
 rw [← hgp] at q1
 have hpos : Pos w gp gt wa.heap.size := ⟨by omega, by omega, by omega, by omega, by omega⟩
 have HGP := ya hgp
 have HGT := ya hgt
 rw [← hgp, ← hgt]
 clear hsz hgp hgt
 go_upto_region 6 with ((with_reducible show sn); refine z18 (g := gp) (j := 0) (v := fnV 125 [gp, gt]) (cs' := #[fnV 125 [gp, gt]]) rfl rfl (by kernel_rfl) rfl rfl rfl q1 (by simp) (by simp) ?_; intro w2 ht2 b2)
 have hacc : Acc w gp gt wa.heap.size 163 (fnV 125 [gp, gt]) [] w2 :=
  ⟨.slice none 0 0, ⟨hb0.trans (ht2.below _ hpos.p), b2, ht2.blk q0 hpos.ne.symm, by rw [ht2.size]; exact Nat.le_refl _⟩, yg.nil _ _⟩
 have HI2 := ya (HI.out gp gt wa.heap.size hpos w2 hacc)
 have c2 := b2.cell 0
 simp only [List.getElem?_toArray, List.getElem?_cons_zero] at c2
 clear b2 ht2 q0 q1 hacc HI
 go_wp2_with fail
 refine HI2.out.mono ?_
 rintro e w5 ⟨rfl, v5, hS5, hown5⟩
 have c5 := hS5.var.cell 0
 simp only [List.getElem?_toArray, List.getElem?_cons_zero] at c5
 have hsz : w.heap.size ≤ wa.heap.size := hb0.size
 have hold := hS5.old
 clear hS5
 go_wp2_with fail
 refine bodyPost_ret (results_tmp2 rfl _ _ _) rfl ?_
 exact ⟨_, rfl, hown5.lower hsz, hold⟩
theorem zqn (i : Int) (A : Option Addr) (n c : Nat) (w : World) (h : i < 0 ∨ (n : Int) ≤ i) :
  Calls Tryz.prog 83 #[.slice A n c, .int .i64 i] w (z35 ([], 1) w) := by
 unfold z35
 by_cases h0 : i < 0
 ·have d0 : decide (i < 0) = true := by simpa using h0
  go_enter Tryz.func83, Tryz.ntmps83
  go_wp2_with fail
  refine bodyPost_ret (results_tmp2 rfl _ _ _) rfl ?_
  exact ⟨_, rfl, yg.nil _ _, Below.refl _ _⟩
 ·have d0 : decide (i < 0) = false := by simpa using h0
  have d1 : decide (i ≥ (n : Int)) = true := by simp; omega
  go_enter Tryz.func83, Tryz.ntmps83
  go_wp2_with fail
  refine bodyPost_ret (results_tmp2 rfl _ _ _) rfl ?_
  exact ⟨_, rfl, yg.nil _ _, Below.refl _ _⟩
theorem zql {nd : Nat → Nat → Nat} {em : Nat} (N : Nds nd em) (l : List Nat) (i : Int) (A : Option Addr) (n c : Nat) (w : World) (hn : n ≤ 1000000) (hr : RdD w A n l) (hnc : n ≤ c) (hcm : c ≤ maxLen) (hg : GCon w) :
  Calls Tryz.prog 83 #[.slice A n c, .int .i64 i] w (z35 (z21 nd em l i) w) := by
 have hl := hr.len
 unfold z21
 by_cases h : 0 ≤ i ∧ i < l.length
 ·rw [if_pos h]
  obtain ⟨k, rfl⟩ : ∃ k : Nat, i = k := ⟨i.toNat, by omega⟩
  exact zqm N l k A n c w hn (by omega) hr hnc hcm hg
 ·rw [if_neg h]
  exact zqn i A n c w (by omega)
end
end Go.Proofs.YtcapckngikekpaaGreatDoor
