/-
  What Words, times and Join, and the reference's Join, Few and Joined compute. Condition: the table of nibbles reads as the program lays it.
-/
import Derived.Test.YtnfmgklpibknfaaDoorHash3
namespace Go.Proofs.YtnfmgklpibknfaaDoor
set_option linter.unusedSimpArgs false
set_option linter.unusedVariables false
open Go.RowKit Crc

theorem nib_mod (r : BitVec 40) (n : Nat) : nib r n = nib r (n % 16) := by
  unfold nib
  have h : ∀ a b : Nat, (a ^^^ b) % 16 = (a ^^^ (b % 16)) % 16 := by
    intro a b
    have h1 := Nat.xor_mod_two_pow (a := a) (b := b) (n := 4)
    have h2 := Nat.xor_mod_two_pow (a := a) (b := b % 16) (n := 4)
    simp only [show (2 : Nat) ^ 4 = 16 from rfl, Nat.mod_mod] at h1 h2
    rw [h1, h2]
  rw [h]
def wn (n : Int) (j : Nat) : Nat := (n / 2 ^ (36 - 4 * j) % 16).toNat
def wordSteps (r : BitVec 40) (n : Int) : Nat → BitVec 40
  | 0 => r
  | j + 1 => nib (wordSteps r n j) (wn n j)
theorem wordSteps_eq (r : BitVec 40) (n : Int) : wordSteps r n 10 = crcR r (fiveB n) := by
  have hb : ∀ (r : BitVec 40) (m : Int) (a b : Nat), a = (m / 16 % 16).toNat → b = (m % 16).toNat → byteStep r (byteOf m) = nib (nib r a) b := by
    intro r m a b ha hb'
    have h := byteOf_nat m
    unfold byteStep
    rw [nib_mod _ (byteOf m).toNat]
    have e1 : (byteOf m).toNat / 16 = a := by omega
    have e2 : (byteOf m).toNat % 16 = b := by omega
    rw [e1, e2]
  simp only [fiveB, crcR, List.foldl_cons, List.foldl_nil]
  rw [hb _ (n / 2 ^ 32) (wn n 0) (wn n 1) (by unfold wn; omega) (by unfold wn; omega), hb _ (n / 2 ^ 24) (wn n 2) (wn n 3) (by unfold wn; omega) (by unfold wn; omega),
    hb _ (n / 2 ^ 16) (wn n 4) (wn n 5) (by unfold wn; omega) (by unfold wn; omega), hb _ (n / 2 ^ 8) (wn n 6) (wn n 7) (by unfold wn; omega) (by unfold wn; omega),
    hb _ n (wn n 8) (wn n 9) (by unfold wn; omega) (by unfold wn; omega)]
  rfl
theorem i64_and15 (a : Int) : bits .and .i64 a 15 = a % 16 := by
  show IntKind.i64.wrap ((BitVec.ofInt 64 a &&& BitVec.ofInt 64 15).toNat : Int) = _
  rw [BitVec.toNat_and, show (BitVec.ofInt 64 15).toNat = 2 ^ 4 - 1 from by decide, Nat.and_two_pow_sub_one_eq_mod, BitVec.toNat_ofInt, IntKind.wrap_i64]
  omega
theorem crcR_bytesOf_snoc (r : BitVec 40) (l : List Int) (x : Int) : crcR r (bytesOf (l ++ [x])) = wordSteps (crcR r (bytesOf l)) x 10 := by
  rw [bytesOf_snoc, crcR_append, wordSteps_eq]

set_option maxHeartbeats 1000000 in
theorem words_any (A : Option Addr) (n c : Nat) (l : List Int) (w : World) (hn : n ≤ 1073741824) (hr : Rd w A n (iv l)) (hg : GNib w) :
    Calls Tryd.prog 23 #[.slice A n c] w fun e w' => e = .returned (.int .i64 ((check (bytesOf l)).toNat : Nat)) ∧ Below w.heap.size w w' := by
  have hl : l.length = n := by have := hr.len; simpa using this
  go_enter Tryd.func23, Tryd.ntmps23
  go_wp2_with fail
  refine (beginCrc_any _).mono ?_
  rintro e w1 ⟨rfl, hb1⟩
  go_wp2_with fail
  go_loopw [5, 6, 10] (fun _ _ i wr => ∃ k : Nat, k ≤ n ∧ i = .int .i64 k ∧ Below w.heap.size w wr ∧ Blk wr w1.heap.size 30 #[.int .u64 ((crcR ones (bytesOf (l.take k))).toNat : Nat)]) (fun _ _ i _ => n - (intOf i).toNat)
  case atStart => exact ⟨0, Nat.zero_le _, rfl, hb1.alloc hb1.size _, Blk.new _ _ _⟩
  case round =>
    obtain ⟨k, hk, rfl, hb, hB⟩ := hrel
    by_cases hlt : k < n
    · obtain ⟨ad, rfl, hc⟩ := (hr.below hb).int hlt hl
      go_wp2_with fail
      obtain ⟨wo, rfl⟩ : ∃ wo : World, wo = wr := ⟨_, rfl⟩
      go_loopw [6] (fun s wr => ∃ j : Nat, j ≤ 10 ∧ s = .int .i64 (36 - 4 * j) ∧ Below w.heap.size w wr ∧ Blk wr w1.heap.size 30 #[.int .u64 ((wordSteps (crcR ones (bytesOf (l.take k))) (l[k]'(by omega)) j).toNat : Nat)]) (fun s _ => (4 + intOf s).toNat)
      case atStart => exact ⟨0, Nat.zero_le _, rfl, hb, hB⟩
      case round =>
        obtain ⟨j, hj, rfl, hb2, hB2⟩ := hrel
        by_cases hlj : j < 10
        · have hi := i64_and15 ((l[k]'(by omega)) / 2 ^ (36 - 4 * j))
          have hj0 : (0 : Int) ≤ (l[k]'(by omega)) / 2 ^ (36 - 4 * j) % 16 := by omega
          have hj1 : (l[k]'(by omega)) / 2 ^ (36 - 4 * j) % 16 < 16 := by omega
          have HS : wordSteps (crcR ones (bytesOf (l.take k))) (l[k]'(by omega)) (j + 1) = nib (wordSteps (crcR ones (bytesOf (l.take k))) (l[k]'(by omega)) j) ((l[k]'(by omega)) / 2 ^ (36 - 4 * j) % 16).toNat := rfl
          have hg2 := hg.below hb2
          have H1 := Lib.hid HS
          clear HS
          go_wp2_with fail
          refine wp_region_T 7 (by kernel_rfl) ?_
          -- region 8: 8 operations, tail from 7
          refine WpT.take (i := 0) rfl (by kernel_rfl) (fun _ _ _ h => h) (yields_blk rfl rfl rfl (by kernel_rfl) (by kernel_rfl) (by assumption)) ((Below.refl _ _).drew) ?_
          try simp only [Act.put, List.setIfInBounds_toArray, List.set_cons_zero, List.set_cons_succ]
          refine WpT.take (i := 1) rfl (by kernel_rfl) (fun _ _ _ h => h) (.inl ⟨by rfl, fun w hSw => by clear hSw; go_simp; (try go_bits); (try rw [if_pos (by omega)]); (try with_reducible rfl)⟩) ((Below.refl _ _).drew) ?_
          try simp only [Act.put, List.setIfInBounds_toArray, List.set_cons_zero, List.set_cons_succ]
          refine WpT.take (i := 2) rfl (by kernel_rfl) (fun _ _ _ h => h) (.inl ⟨by rfl, fun w hSw => by clear hSw; go_simp; (try go_bits); (try rw [if_pos (by omega)]); (try with_reducible rfl)⟩) ((Below.refl _ _).drew) ?_
          try simp only [Act.put, List.setIfInBounds_toArray, List.set_cons_zero, List.set_cons_succ]
          refine WpT.take (i := 3) rfl (by kernel_rfl) (fun _ _ _ h => h) (.inl ⟨by rfl, fun w hSw => by clear hSw; go_simp; (try go_bits); (try rw [if_pos (by omega)]); (try with_reducible rfl)⟩) ((Below.refl _ _).drew) ?_
          try simp only [Act.put, List.setIfInBounds_toArray, List.set_cons_zero, List.set_cons_succ]
          refine WpT.take (i := 4) rfl (by kernel_rfl) (fun _ _ _ h => h) (.inl ⟨by rfl, fun w hSw => by clear hSw; go_simp; (try go_bits); (try rw [if_pos (by omega)]); (try with_reducible rfl)⟩) ((Below.refl _ _).drew) ?_
          try simp only [Act.put, List.setIfInBounds_toArray, List.set_cons_zero, List.set_cons_succ]
          refine WpT.take (i := 5) rfl (by kernel_rfl) (fun _ _ _ h => h) (.inl ⟨by rfl, fun w hSw => by clear hSw; go_simp; (try go_bits); (try rw [if_pos (by omega)]); (try with_reducible rfl)⟩) ((Below.refl _ _).drew) ?_
          try simp only [Act.put, List.setIfInBounds_toArray, List.set_cons_zero, List.set_cons_succ]
          refine WpT.one (i := 6) rfl (by kernel_rfl) (fun K hK => ?_)
          go_simp; refine (nibble_int _ _ _ (by omega) (by omega) (by exact hg2)).mono ?_; rintro e w2 ⟨rfl, hb3⟩; have hS1 : Below wr.heap.size wr w2 := bstep (Below.refl _ wr).drew hb3; have hB3 := hB2.below hS1; have hc3 := hB3.cell 0; have hf3 := hB3.free 0; simp at hc3
          refine hK _ _ (hS1) ?_; clear hK K; try simp only [Act.put, List.setIfInBounds_toArray, List.set_cons_zero, List.set_cons_succ]
          refine WpT.tail (i := 7) rfl (by kernel_rfl) (by kernel_rfl) (fun K hK => ?_)
          go_simp; (try go_bits)
          refine hK _ _ ?_; clear hK K; try simp only [Act.put, List.setIfInBounds_toArray, List.set_cons_zero, List.set_cons_succ]
          refine WpT.done (by kernel_rfl) ?_ _
          go_wp2_with fail
          have hz := hb1.size
          refine ⟨⟨j + 1, by omega, by go_num, (hb2.trans (hS1.mono hb2.size)).setCell (by simp; omega) _, ?_⟩, by simp [intOf]; omega⟩
          rw [H1.out]
          exact hB3.set 0 _
        · obtain rfl : j = 10 := by omega
          go_wp2_with fail
          refine ⟨⟨k + 1, by omega, by go_num, hb2, ?_⟩, by simp [intOf]; omega⟩
          rw [List.take_succ_eq_append_getElem (by omega), crcR_bytesOf_snoc]
          exact hB2
    · obtain rfl : k = n := by omega
      rw [List.take_of_length_le (by omega)] at hB
      have hc0 := hB.cell 0
      simp at hc0
      clear hB
      go_wp2_with fail
      refine (crcValue_any _ _).mono ?_
      rintro e w2 ⟨rfl, hb2⟩
      go_wp2
      go_ret
      exact ⟨rfl, hb.trans (hb2.mono hb.size)⟩
end Go.Proofs.YtnfmgklpibknfaaDoor
