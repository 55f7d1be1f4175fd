/-
  What Crc40 and the reference's Crc40 compute. Condition: the table of nibbles reads as the program lays it.
-/
import Derived.Test.YtnfmgklpibknfaaDoorHash1
namespace Go.Proofs.YtnfmgklpibknfaaDoor
set_option linter.unusedSimpArgs false
set_option linter.unusedVariables false
open Go.RowKit Crc

theorem bytesTy : BytesTy Tryd.prog 22 5 := ⟨by kernel_rfl, by kernel_rfl⟩
theorem strTy : Tryd.prog.underlying 9 = some .string := by kernel_rfl
theorem elemBytes : ElemOk Tryd.prog 22 5 := by
  obtain ⟨i, h1, h2, h3, h4⟩ := info_parts (show (Tryd.prog.info? 5).map (fun i => (i.zero, i.size, i.bytes)) = some (some (.int .u8 0), 1, 1) by kernel_rfl)
  exact ⟨by kernel_rfl, i, .int .u8 0, h1, h2, h3, by omega, rfl⟩

set_option maxHeartbeats 1000000 in
theorem crc40_any (A : Option Addr) (n c : Nat) (l : List UInt8) (w : World) (hl : l.length ≤ maxLen) (hr : Rd w A n (bv l)) (hg : GNib w) :
    Calls Tryd.prog 16 #[.slice A n c] w fun e w' => e = .returned (.int .i64 ((check l).toNat : Nat)) ∧ Below w.heap.size w w' := by
  go_enter Tryd.func16, Tryd.ntmps16
  go_wp2_with fail
  refine wp_region_T 5 (by kernel_rfl) ?_
  -- region 1: 6 operations, tail from 5
  refine WpT.take (i := 1) rfl (by kernel_rfl) (fun _ _ _ h => h) (.inl ⟨by rfl, fun w hSw => by clear hSw; go_simp; (try go_bits); (try rw [if_pos (by omega)]); (try with_reducible rfl)⟩) ((Below.refl _ _).drew) ?_
  try simp only [Act.put, List.setIfInBounds_toArray, List.set_cons_zero, List.set_cons_succ]
  refine WpT.take (i := 2) rfl (by kernel_rfl) (fun _ _ _ h => h) (yields_bts rfl rfl bytesTy strTy rfl (by assumption)) ((Below.refl _ _).drew) ?_
  try simp only [Act.put, List.setIfInBounds_toArray, List.set_cons_zero, List.set_cons_succ]
  refine WpT.one (i := 0) rfl (by kernel_rfl) (fun K hK => ?_)
  go_simp; refine (beginCrc_any _).mono ?_; rintro e w1 ⟨rfl, hb1⟩; have hS1 : Below w.heap.size w w1 := bstep (Below.refl _ w).drew hb1
  refine hK _ _ (hS1) ?_; clear hK K; try simp only [Act.put, List.setIfInBounds_toArray, List.set_cons_zero, List.set_cons_succ]
  refine WpT.one (i := 3) rfl (by kernel_rfl) (fun K hK => ?_)
  go_simp; refine (crcAdd_any _ _ _ (by show l.toArray.size ≤ maxLen; simpa using hl) (by exact hg.below hS1)).mono ?_; rintro e w2 ⟨rfl, hb2⟩; have hS2 := bstep hS1 hb2
  refine hK _ _ (hS2) ?_; clear hK K; try simp only [Act.put, List.setIfInBounds_toArray, List.set_cons_zero, List.set_cons_succ]
  refine WpT.one (i := 4) rfl (by kernel_rfl) (fun K hK => ?_)
  go_simp; refine (crcValue_any _ _).mono ?_; rintro e w3 ⟨rfl, hb3⟩; have hS3 := bstep hS2 hb3
  refine hK _ _ (hS3) ?_; clear hK K; try simp only [Act.put, List.setIfInBounds_toArray, List.set_cons_zero, List.set_cons_succ]
  refine WpT.tail (i := 5) rfl (by kernel_rfl) (by kernel_rfl) (fun K hK => ?_)
  go_simp; (try go_bits)
  refine hK _ _ ?_; clear hK K; try simp only [Act.put, List.setIfInBounds_toArray, List.set_cons_zero, List.set_cons_succ]
  refine WpT.done (by kernel_rfl) ?_ _
  go_wp2
  go_ret
  exact ⟨rfl, hS3⟩

theorem stp_eq (r : BitVec 40) (c : Bool) : stp r c = (r <<< 1) ^^^ (if r.msb != c then poly else 0#40) := by
  unfold stp M
  rw [BitVec.shiftLeft_xor_distrib, BitVec.msb_xor]
  cases c
  · simp
  · have h1 : (1#40 <<< 39) <<< 1 = 0#40 := by decide
    have h2 : (1#40 <<< 39).msb = true := by decide
    rw [if_pos rfl, h1, h2]
    cases r.msb <;> simp
theorem msb_nat (r : BitVec 40) : (if r.msb then 1 else 0) = r.toNat / 549755813888 := by
  have h := r.isLt
  rw [BitVec.msb_eq_decide]
  by_cases hb : 2 ^ 39 ≤ r.toNat
  · simp [hb]; omega
  · simp [hb]; omega
theorem shl1_nat (r : BitVec 40) : (r <<< 1).toNat = r.toNat * 2 % 1099511627776 := by
  rw [BitVec.toNat_shiftLeft, Nat.shiftLeft_eq]
/-- One bit, as the reference takes it. -/
theorem step_any (r : BitVec 40) (c : Bool) (w : World) :
    Calls Tryd.prog 40 #[.int .u64 (r.toNat : Nat), .int .u64 (if c then 1 else 0)] w fun e w' => e = .returned (.int .u64 ((stp r c).toNat : Nat)) ∧ w = w' := by
  have hr := r.isLt
  have hq := stp_eq r c
  have hm := msb_nat r
  have hs := shl1_nat r
  have hlt := (r <<< 1).isLt
  have hx : bits .xor .u64 ((r <<< 1).toNat : Int) 75628553 = (((r <<< 1) ^^^ poly).toNat : Int) := by
    rw [show (75628553 : Int) = ((75628553 : Nat) : Int) from rfl, u64_xor_nat _ _ (by omega) (by omega), BitVec.toNat_xor]; rfl
  have ha : bits .and .u64 ((r.toNat : Int) * 2) 1099511627775 = ((r <<< 1).toNat : Int) := by
    rw [i64_and_mask40, hs]; omega
  generalize r <<< 1 = r1 at *
  cases hc : r.msb <;> rw [hc] at hm hq <;> simp only [Bool.false_eq_true, if_false, if_true] at hm
  all_goals
    have h1 : bits .and .u64 ((r.toNat : Int) / 549755813888) 1 = ((r.toNat / 549755813888 : Nat) : Int) := by
      rw [show (r.toNat : Int) / 549755813888 = ((r.toNat / 549755813888 : Nat) : Int) from rfl, ← hm]; decide
    rw [← hm] at h1
    generalize r.toNat = rn at *
    clear hm hs
    cases c
    all_goals
      simp at hq
      go_enter Tryd.func40, Tryd.ntmps40
      go_wp2
      go_ret
      exact ⟨by simp [hq], rfl⟩

theorem step_int (r : BitVec 40) (b : Int) (c : Bool) (w : World) (hb : b = if c then 1 else 0) :
    Calls Tryd.prog 40 #[.int .u64 (r.toNat : Nat), .int .u64 b] w fun e w' => e = .returned (.int .u64 ((stp r c).toNat : Nat)) ∧ w = w' := by
  subst hb; exact step_any r c w

theorem bit_int (b k : Nat) (hb : b < 256) (hk : k < 8) : bits .and .u64 ((b : Int) / 2 ^ (7 - k)) 1 = if b.testBit (7 - k) then 1 else 0 := by
  rw [show ((b : Int) / 2 ^ (7 - k)) = ((b / 2 ^ (7 - k) : Nat) : Int) by simp, show (1 : Int) = ((1 : Nat) : Int) from rfl]
  have h1 : b / 2 ^ (7 - k) < 256 := Nat.lt_of_le_of_lt (Nat.div_le_self _ _) hb
  rw [u64_and_nat _ _ (by omega) (by omega), nat_mask1, Nat.testBit_eq_decide_div_mod_eq]
  have : b / 2 ^ (7 - k) % 2 < 2 := Nat.mod_lt _ (by omega)
  rcases h : b / 2 ^ (7 - k) % 2 with _ | _ | x
  · rfl
  · rfl
  · omega

set_option maxHeartbeats 1000000 in
theorem refCrc40_any (A : Option Addr) (n c : Nat) (l : List UInt8) (w : World) (hn : n ≤ 1099511627776) (hr : Rd w A n (bv l)) :
    Calls Tryd.prog 17 #[.slice A n c] w fun e w' => e = .returned (.int .i64 ((check l).toNat : Nat)) ∧ w = w' := by
  have hl : l.length = n := by have := hr.len; simpa using this
  go_enter Tryd.func17, Tryd.ntmps17
  go_wp2
  go_loop [3, 4] (fun reg i => ∃ k : Nat, k ≤ n ∧ i = .int .i64 k ∧ reg = .int .u64 ((crcR ones (l.take k)).toNat : Nat)) (fun _ i => n - (intOf i).toNat)
  case atStart => exact ⟨0, Nat.zero_le _, rfl, rfl⟩
  case round =>
    obtain ⟨k, hk, rfl, rfl⟩ := hrel
    by_cases hlt : k < n
    · obtain ⟨ad, rfl, hc⟩ := hr.byte hlt hl
      have hb := (l[k]'(by omega)).toNat_lt
      go_wp2
      go_loop [3, 5] (fun reg j => ∃ m : Nat, m ≤ 8 ∧ j = .int .i64 m ∧ reg = .int .u64 ((refSteps (crcR ones (l.take k)) (l[k]'(by omega)).toNat m).toNat : Nat)) (fun _ j => 8 - (intOf j).toNat)
      case atStart => exact ⟨0, Nat.zero_le _, rfl, rfl⟩
      case round =>
        obtain ⟨m, hm, rfl, rfl⟩ := hrel
        by_cases hlm : m < 8
        · go_wp2_with (go_at_call 40; refine (step_int _ _ ((l[k]'(by omega)).toNat.testBit (7 - m)) _ (bit_int _ _ hb hlm)).mono ?_; rintro e w' ⟨rfl, rfl⟩)
          go_round
          case rel => exact ⟨m + 1, by omega, by go_num, rfl⟩
          case measure => simp [intOf]; omega
        · obtain rfl : m = 8 := by omega
          go_wp2
          refine ⟨⟨k + 1, by omega, by go_num, ?_⟩, by simp [intOf]; omega⟩
          rw [refSteps_eq, List.take_succ_eq_append_getElem (by omega), crcR_snoc]
    · obtain rfl : k = n := by omega
      have hfin : bits .xor .u64 ((crcR ones (l.take k)).toNat : Int) 1099511627775 = ((check l).toNat : Int) := by
        have h1 := (crcR ones (l.take k)).isLt
        rw [show (1099511627775 : Int) = ((1099511627775 : Nat) : Int) from rfl, u64_xor_nat _ _ (by omega) (by omega), List.take_of_length_le (by omega)]
        rw [check, BitVec.toNat_xor]; rfl
      have hlt2 := (check l).isLt
      go_wp2
      go_ret
      exact ⟨rfl, rfl⟩
end Go.Proofs.YtnfmgklpibknfaaDoor
