/-
  What the word functions of SHA-256 compute, in the program and in the reference.
-/
import Derived.Test.YtfnpeclomcnpeaaDoorByt
import Derived.Test.YtfnpeclomcnpeaaDoorSha
namespace Go.Proofs.YtfnpeclomcnpeaaDoor
set_option linter.unusedSimpArgs false
set_option linter.unusedVariables false
open Go.RowKit Sha

theorem ofInt32 (a : Nat) : (BitVec.ofInt 32 (a : Int)).toNat = a % 4294967296 := by
  rw [BitVec.ofInt_natCast, BitVec.toNat_ofNat]
theorem w_xor (a b : Nat) : bits .xor .u32 (a : Int) (b : Int) = ((xor32 a b : Nat) : Int) := by
  show IntKind.u32.wrap ((BitVec.ofInt 32 (a : Int) ^^^ BitVec.ofInt 32 (b : Int)).toNat : Int) = _
  rw [BitVec.toNat_xor, ofInt32, ofInt32, IntKind.wrap_u32]
  have := xor32_lt a b
  unfold xor32 at *
  omega
theorem w_and (a b : Nat) : bits .and .u32 (a : Int) (b : Int) = ((and32 a b : Nat) : Int) := by
  show IntKind.u32.wrap ((BitVec.ofInt 32 (a : Int) &&& BitVec.ofInt 32 (b : Int)).toNat : Int) = _
  rw [BitVec.toNat_and, ofInt32, ofInt32, IntKind.wrap_u32]
  have := and32_lt a b
  unfold and32 at *
  omega
theorem w_or (a b : Nat) : bits .or .u32 (a : Int) (b : Int) = ((or32 a b : Nat) : Int) := by
  show IntKind.u32.wrap ((BitVec.ofInt 32 (a : Int) ||| BitVec.ofInt 32 (b : Int)).toNat : Int) = _
  rw [BitVec.toNat_or, ofInt32, ofInt32, IntKind.wrap_u32]
  have := or32_lt a b
  unfold or32 at *
  omega
theorem w_xorf (a : Nat) : bits .xor .u32 (a : Int) 4294967295 = ((not32 a : Nat) : Int) := w_xor a 4294967295
theorem w_add (a b : Nat) : IntKind.u32.wrap ((a : Int) + (b : Int)) = ((add32 a b : Nat) : Int) := by
  rw [IntKind.wrap_u32]; unfold add32; omega
theorem w_shr (a k : Nat) : (a : Int) / 2 ^ k = ((shr32 a k : Nat) : Int) := by unfold shr32; simp
theorem w_shl (a k : Nat) : IntKind.u32.wrap ((a : Int) * 2 ^ k) = ((shl32 a k : Nat) : Int) := by
  rw [IntKind.wrap_u32]; unfold shl32; simp

set_option maxHeartbeats 400000 in
/-- A rotation to the right by i, as the program asks for it. -/
theorem rotl_any (x : Nat) (i : Nat) (w : World) (h0 : 1 ≤ i) (h1 : i ≤ 31) (hx : x < 4294967296) :
    Calls Tryd.prog 71 #[.int .u32 (x : Nat), .int .i64 (-(i : Int))] w fun e w' => e = .returned (.int .u32 ((rotr x i : Nat) : Int)) ∧ w = w' := by
  have hk : bits .and .u64 (IntKind.u64.wrap (-(i : Int))) 31 = ((32 - i : Nat) : Int) := by
    rw [IntKind.wrap_u64, show (-(i : Int)) % 18446744073709551616 = ((18446744073709551616 - i : Nat) : Int) by omega, show (31 : Int) = ((31 : Nat) : Int) from rfl, u64_and_nat _ _ (by omega) (by omega), nat_mask5]
    omega
  have hfin : bits .or .u32 ((x : Int) * 2 ^ (32 - i) % 4294967296) ((x : Int) / 2 ^ (32 - (32 - i))) = ((rotr x i : Nat) : Int) := by
    have e1 : (x : Int) * 2 ^ (32 - i) % 4294967296 = ((shl32 x (32 - i) : Nat) : Int) := by rw [← w_shl, IntKind.wrap_u32]
    rw [e1, w_shr, w_or, or32_comm, show 32 - (32 - i) = i by omega]; rfl
  generalize rotr x i = r at *
  go_enter Tryd.func71, Tryd.ntmps71
  go_wp2
  go_ret
  exact ⟨rfl, rfl⟩
set_option maxHeartbeats 400000 in
theorem refRotr_any (x : Nat) (i : Nat) (w : World) (h0 : 1 ≤ i) (h1 : i ≤ 31) (hx : x < 4294967296) :
    Calls Tryd.prog 69 #[.int .u32 (x : Nat), .int .i64 (i : Int)] w fun e w' => e = .returned (.int .u32 ((rotr x i : Nat) : Int)) ∧ Below w.heap.size w w' := by
  have hfin : bits .or .u32 ((x : Int) / 2 ^ i) ((x : Int) * 2 ^ (32 - i) % 4294967296) = ((rotr x i : Nat) : Int) := by
    have e1 : (x : Int) * 2 ^ (32 - i) % 4294967296 = ((shl32 x (32 - i) : Nat) : Int) := by rw [← w_shl, IntKind.wrap_u32]
    rw [e1, w_shr, w_or]; rfl
  generalize rotr x i = r at *
  go_enter Tryd.func69, Tryd.ntmps69
  go_wp2
  go_quiet (fail)
  go_wp2
  go_ret
  exact ⟨rfl, ⟨rfl, rfl, rfl, Nat.le_refl _, fun _ _ => rfl⟩⟩

theorem rotl_int (x k : Int) (i : Nat) (w : World) (hk : k = -(i : Int)) (h0 : 1 ≤ i) (h1 : i ≤ 31) (hx0 : 0 ≤ x) (hx : x < 4294967296) :
    Calls Tryd.prog 71 #[.int .u32 x, .int .i64 k] w fun e w' => e = .returned (.int .u32 ((rotr x.toNat i : Nat) : Int)) ∧ w = w' := by
  obtain ⟨n, rfl⟩ := Int.eq_ofNat_of_zero_le hx0
  subst hk
  exact rotl_any n i w h0 h1 (by omega)
set_option maxHeartbeats 400000 in
theorem mix_any (x : Nat) (i j k : Nat) (w : World) (hx : x < 4294967296) (hi0 : 1 ≤ i) (hi1 : i ≤ 31) (hj0 : 1 ≤ j) (hj1 : j ≤ 31) (hk0 : 1 ≤ k) (hk1 : k ≤ 31) :
    Calls Tryd.prog 66 #[.int .u32 (x : Nat), .int .i64 (i : Int), .int .i64 (j : Int), .int .i64 (k : Int)] w fun e w' => e = .returned (.int .u32 ((mix x i j k : Nat) : Int)) ∧ w = w' := by
  have hfin : bits .xor .u32 (bits .xor .u32 ((rotr x i : Nat) : Int) ((rotr x j : Nat) : Int)) ((rotr x k : Nat) : Int) = ((mix x i j k : Nat) : Int) := by
    rw [w_xor, w_xor]; rfl
  have r1 := rotr_lt x i
  have r2 := rotr_lt x j
  have r3 := rotr_lt x k
  generalize mix x i j k = m at *
  have c1 := fun w => rotl_any x i w hi0 hi1 hx
  have c2 := fun w => rotl_any x j w hj0 hj1 hx
  have c3 := fun w => rotl_any x k w hk0 hk1 hx
  generalize rotr x i = q1 at *
  generalize rotr x j = q2 at *
  generalize rotr x k = q3 at *
  have C1 := Lib.hid c1
  have C2 := Lib.hid c2
  have C3 := Lib.hid c3
  clear c1 c2 c3
  go_enter Tryd.func66, Tryd.ntmps66
  go_wp2_with fail
  refine (C1.out _).mono ?_
  rintro e w' ⟨rfl, rfl⟩
  go_wp2_with fail
  refine (C2.out _).mono ?_
  rintro e w' ⟨rfl, rfl⟩
  go_wp2_with fail
  refine (C3.out _).mono ?_
  rintro e w' ⟨rfl, rfl⟩
  go_wp2
  go_ret
  exact ⟨rfl, rfl⟩
end Go.Proofs.YtfnpeclomcnpeaaDoor
