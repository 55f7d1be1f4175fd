/-
  SHA-256 on lists of bytes, by natural numbers below 2^32. No program here.
-/
namespace Go.Proofs.YtfnpeclomcnpeaaDoor
set_option linter.unusedSimpArgs false
set_option linter.unusedVariables false
namespace Sha
def add32 (a b : Nat) : Nat := (a + b) % 4294967296
def xor32 (a b : Nat) : Nat := (a % 4294967296) ^^^ (b % 4294967296)
def and32 (a b : Nat) : Nat := (a % 4294967296) &&& (b % 4294967296)
def or32 (a b : Nat) : Nat := (a % 4294967296) ||| (b % 4294967296)
def shr32 (a k : Nat) : Nat := a / 2 ^ k
def shl32 (a k : Nat) : Nat := a * 2 ^ k % 4294967296
def not32 (a : Nat) : Nat := xor32 a 4294967295
def rotr (a k : Nat) : Nat := or32 (shr32 a k) (shl32 a (32 - k))
theorem add32_lt (a b : Nat) : add32 a b < 4294967296 := Nat.mod_lt _ (by decide)
theorem xor32_lt (a b : Nat) : xor32 a b < 4294967296 := Nat.xor_lt_two_pow (n := 32) (Nat.mod_lt _ (by decide)) (Nat.mod_lt _ (by decide))
theorem and32_lt (a b : Nat) : and32 a b < 4294967296 := Nat.lt_of_le_of_lt Nat.and_le_left (Nat.mod_lt _ (by decide))
theorem or32_lt (a b : Nat) : or32 a b < 4294967296 := Nat.or_lt_two_pow (n := 32) (Nat.mod_lt _ (by decide)) (Nat.mod_lt _ (by decide))
theorem shl32_lt (a k : Nat) : shl32 a k < 4294967296 := Nat.mod_lt _ (by decide)
theorem rotr_lt (a k : Nat) : rotr a k < 4294967296 := or32_lt _ _
theorem or32_comm (a b : Nat) : or32 a b = or32 b a := Nat.or_comm _ _

def K : List Nat := [
  1116352408, 1899447441, 3049323471, 3921009573, 961987163, 1508970993, 2453635748, 2870763221, 3624381080, 310598401, 607225278, 1426881987, 1925078388, 2162078206, 2614888103, 3248222580,
  3835390401, 4022224774, 264347078, 604807628, 770255983, 1249150122, 1555081692, 1996064986, 2554220882, 2821834349, 2952996808, 3210313671, 3336571891, 3584528711, 113926993, 338241895,
  666307205, 773529912, 1294757372, 1396182291, 1695183700, 1986661051, 2177026350, 2456956037, 2730485921, 2820302411, 3259730800, 3345764771, 3516065817, 3600352804, 4094571909, 275423344,
  430227734, 506948616, 659060556, 883997877, 958139571, 1322822218, 1537002063, 1747873779, 1955562222, 2024104815, 2227730452, 2361852424, 2428436474, 2756734187, 3204031479, 3329325298]

/-- Eight words. -/
structure S8 where
  a : Nat
  b : Nat
  c : Nat
  d : Nat
  e : Nat
  f : Nat
  g : Nat
  h : Nat
def H0 : S8 := ⟨1779033703, 3144134277, 1013904242, 2773480762, 1359893119, 2600822924, 528734635, 1541459225⟩
def S8.list (s : S8) : List Nat := [s.a, s.b, s.c, s.d, s.e, s.f, s.g, s.h]

/-- A word of four bytes, as the program makes it. -/
def wordN (b : List UInt8) (t : Nat) : Nat → Nat
  | 0 => 0
  | j + 1 => or32 (shl32 (wordN b t j) 8) (b.getD (4 * t + j) 0).toNat
def word4 (b : List UInt8) (t : Nat) : Nat := wordN b t 4
def sig0 (p : Nat) : Nat := xor32 (xor32 (rotr p 7) (rotr p 18)) (shr32 p 3)
def sig1 (q : Nat) : Nat := xor32 (xor32 (rotr q 17) (rotr q 19)) (shr32 q 10)
def next (l : List Nat) (t : Nat) : Nat := add32 (add32 (add32 (l.getD (t - 16) 0) (sig0 (l.getD (t - 15) 0))) (l.getD (t - 7) 0)) (sig1 (l.getD (t - 2) 0))
/-- The first t words of a block's schedule. -/
def sched (b : List UInt8) : Nat → List Nat
  | 0 => []
  | t + 1 => sched b t ++ [if t < 16 then word4 b t else next (sched b t) t]
theorem length_sched (b : List UInt8) (t : Nat) : (sched b t).length = t := by
  induction t with
  | zero => rfl
  | succ t ih => simp [sched, ih]

def mix (x i j k : Nat) : Nat := xor32 (xor32 (rotr x i) (rotr x j)) (rotr x k)
def xOf (k w : Nat) (s : S8) : Nat := add32 (add32 (add32 (add32 s.h (mix s.e 6 11 25)) (xor32 (and32 s.e s.f) (and32 (not32 s.e) s.g))) k) w
def yOf (s : S8) : Nat := add32 (mix s.a 2 13 22) (xor32 (xor32 (and32 s.a s.b) (and32 s.a s.c)) (and32 s.b s.c))
def rnd (k w : Nat) (s : S8) : S8 := ⟨add32 (xOf k w s) (yOf s), s.a, s.b, s.c, add32 s.d (xOf k w s), s.e, s.f, s.g⟩
def rounds (W : List Nat) (s : S8) : Nat → S8
  | 0 => s
  | t + 1 => rnd (K.getD t 0) (W.getD t 0) (rounds W s t)
def plus8 (s v : S8) : S8 := ⟨add32 s.a v.a, add32 s.b v.b, add32 s.c v.c, add32 s.d v.d, add32 s.e v.e, add32 s.f v.f, add32 s.g v.g, add32 s.h v.h⟩
/-- One block. -/
def comp (s : S8) (b : List UInt8) : S8 := plus8 s (rounds (sched b 64) s 64)
/-- The hash value after k blocks of m. -/
def stN (m : List UInt8) : Nat → S8
  | 0 => H0
  | k + 1 => comp (stN m k) ((m.drop (64 * k)).take 64)
theorem stN_append (m x : List UInt8) (k : Nat) (h : 64 * k ≤ m.length) : stN (m ++ x) k = stN m k := by
  induction k with
  | zero => rfl
  | succ k ih =>
    rw [stN, stN, ih (by omega)]
    congr 1
    rw [List.drop_append_of_le_length (by omega), List.take_append_of_le_length (by rw [List.length_drop]; omega)]
/-- The zero bytes of the padding of n bytes. -/
def zeros (n : Nat) : Nat := (119 - n % 64) % 64
def lenByte (n i : Nat) : UInt8 := UInt8.ofNat (8 * n / 2 ^ (56 - 8 * i))
def lenBytes (n : Nat) : Nat → List UInt8
  | 0 => []
  | i + 1 => lenBytes n i ++ [lenByte n i]
def pad (n : Nat) : List UInt8 := (128 :: List.replicate (zeros n) 0) ++ lenBytes n 8
theorem length_lenBytes (n i : Nat) : (lenBytes n i).length = i := by
  induction i with
  | zero => rfl
  | succ i ih => simp [lenBytes, ih]
theorem length_pad (n : Nat) : (n + (pad n).length) % 64 = 0 := by
  simp only [pad, List.length_append, List.length_cons, List.length_replicate, length_lenBytes, zeros]
  omega
def digByte (s : S8) (i : Nat) : UInt8 := UInt8.ofNat (s.list.getD (i / 4) 0 / 2 ^ (24 - 8 * (i % 4)))
def dig (s : S8) : Nat → List UInt8
  | 0 => []
  | i + 1 => dig s i ++ [digByte s i]
theorem length_dig (s : S8) (i : Nat) : (dig s i).length = i := by
  induction i with
  | zero => rfl
  | succ i ih => simp [dig, ih]
def final (m : List UInt8) : S8 := stN (m ++ pad m.length) ((m ++ pad m.length).length / 64)
def sha (m : List UInt8) : List UInt8 := dig (final m) 32
theorem length_sha (m : List UInt8) : (sha m).length = 32 := length_dig _ _

theorem abc_ok : (sha [97, 98, 99]).map UInt8.toNat = [0xba, 0x78, 0x16, 0xbf, 0x8f, 0x01, 0xcf, 0xea, 0x41, 0x41, 0x40, 0xde, 0x5d, 0xae, 0x22, 0x23, 0xb0, 0x03, 0x61, 0xa3, 0x96, 0x17, 0x7a, 0x9c, 0xb4, 0x10, 0xff, 0x61, 0xf2, 0x00, 0x15, 0xad] := by decide +kernel
end Sha
end Go.Proofs.YtfnpeclomcnpeaaDoor
