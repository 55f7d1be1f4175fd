/-
  The walk of HashShifts. Conditions: the tables read as the program lays them.
-/
import Derived.Test.YtnfmgklpibknfaaDoorGrd
namespace Go.Proofs.YtnfmgklpibknfaaDoor
set_option linter.unusedSimpArgs false
set_option linter.unusedVariables false
open Go.RowKit Sha Crc
theorem jn_zero (a b : Int) (n : Nat) : jn a b n = jn a 0 n ^^^ BitVec.ofInt 40 b := by
  unfold jn
  have h0 : BitVec.ofInt 40 0 = 0#40 := by decide
  rw [h0, BitVec.xor_zero]
theorem jn_add (a : Int) (n m : Nat) : jn ((jn a 0 n).toNat : Nat) 0 m = jn a 0 (n + m) := by
  unfold jn
  have h0 : BitVec.ofInt 40 0 = 0#40 := by decide
  rw [h0, BitVec.xor_zero, BitVec.xor_zero, BitVec.xor_zero, ofInt40_nat, ← Mi_add, show 8 * m + 8 * n = 8 * (n + m) by omega]
theorem jn_none (b : Int) (n : Nat) : jn 0 b n = BitVec.ofInt 40 b := by
  unfold jn
  have h0 : BitVec.ofInt 40 0 = 0#40 := by decide
  rw [h0, Mi_zero, BitVec.zero_xor]
set_option maxHeartbeats 1000000 in
theorem walkHashShifts (a b n m : Int) (w : World) (ha : (Lit.int .i64 a).wf = true) (hb : (Lit.int .i64 b).wf = true) (hn : (Lit.int .i64 n).wf = true) (hm : (Lit.int .i64 m).wf = true) (hN : GNib w) (hC : GCon w) :
    Calls Tryd.prog 8 #[.int .i64 a, .int .i64 b, .int .i64 n, .int .i64 m] w fun e w' => e = .returned (.bool true) ∧ Below w.heap.size w w' := by
  clear ha hb hn hm
  have e1 := i64_and_mask
  obtain ⟨k, hk⟩ : ∃ k : Nat, (k : Int) = n % 1099511627776 := ⟨(n % 1099511627776).toNat, by omega⟩
  obtain ⟨j, hj⟩ : ∃ j : Nat, (j : Int) = m % 1099511627776 := ⟨(m % 1099511627776).toNat, by omega⟩
  have hk1 : k < 1099511627776 := by omega
  have hj1 : j < 1099511627776 := by omega
  replace hk := hk.symm
  replace hj := hj.symm
  have hx := i64_xor40
  have hz := jn_zero a b (k + j)
  have hadd := jn_add a k j
  have hno := jn_none b k
  have hmod := ofInt40_mod b
  have HZ := Lib.hid hz
  have HADD := Lib.hid hadd
  have HNO := Lib.hid hno
  have HM := Lib.hid hmod
  clear hz hadd hno hmod
  go_enter Tryd.func8, Tryd.ntmps8
  go_wp2_with fail
  refine (sanity_any w hN hC).mono ?_
  rintro e w1 ⟨rfl, hb1⟩
  go_wp2_with fail
  refine (join_any a 0 ((k : Int) + (j : Int)) _ (by omega) (by omega) (hN.below hb1)).mono ?_
  rintro e w' ⟨he, rfl⟩
  rw [show ((k : Int) + (j : Int)).toNat = k + j by omega] at he
  subst he
  go_wp2_with fail
  refine (join_any a 0 k _ (by omega) (by omega) (hN.below hb1)).mono ?_
  rintro e w' ⟨he, rfl⟩
  rw [Int.toNat_natCast] at he
  subst he
  go_wp2_with fail
  refine (join_any ((jn a 0 k).toNat : Nat) 0 j _ (by omega) (by omega) (hN.below hb1)).mono ?_
  rintro e w' ⟨he, rfl⟩
  rw [Int.toNat_natCast, HADD.out] at he
  subst he
  go_wp2_with fail
  refine (join_any a b ((k : Int) + (j : Int)) _ (by omega) (by omega) (hN.below hb1)).mono ?_
  rintro e w' ⟨he, rfl⟩
  rw [show ((k : Int) + (j : Int)).toNat = k + j by omega, HZ.out] at he
  subst he
  go_wp2_with fail
  refine (join_any 0 b k _ (by omega) (by omega) (hN.below hb1)).mono ?_
  rintro e w' ⟨he, rfl⟩
  rw [Int.toNat_natCast, HNO.out, HM.out] at he
  subst he
  go_wp2
  go_ret
  exact ⟨rfl, hb1⟩
end Go.Proofs.YtnfmgklpibknfaaDoor
