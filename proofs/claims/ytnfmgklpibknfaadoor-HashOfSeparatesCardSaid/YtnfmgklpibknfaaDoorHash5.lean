/-
  What times and Join, and the reference's Join, Few and Joined compute. Condition: the table of nibbles reads as the program lays it.
-/
import Derived.Test.YtnfmgklpibknfaaDoorHash4
namespace Go.Proofs.YtnfmgklpibknfaaDoor
set_option linter.unusedSimpArgs false
set_option linter.unusedVariables false
open Go.RowKit Crc

theorem M_nat0 (t : BitVec 40) (h : t.msb = false) : (M t).toNat = t.toNat * 2 ∧ t.toNat < 549755813888 := by
  have hm := msb_nat t
  rw [h] at hm
  simp at hm
  rw [M_shift t h, shl1_nat]
  omega
theorem M_nat1 (t : BitVec 40) (h : t.msb = true) : bits .xor .u64 (bits .and .u64 ((t.toNat : Int) * 2) 1099511627775) 75628553 = ((M t).toNat : Int) ∧ 549755813888 ≤ t.toNat := by
  have hm := msb_nat t
  rw [h] at hm
  simp at hm
  have ht := t.isLt
  have hs := shl1_nat t
  refine ⟨?_, by omega⟩
  have e : ∀ x y : Nat, y = x * 2 % 1099511627776 → (x : Int) * (2 : Int) % (1099511627776 : Int) = (y : Int) := by intro x y h; omega
  rw [i64_and_mask40, e _ _ hs]
  rw [show (75628553 : Int) = ((75628553 : Nat) : Int) from rfl, u64_xor_nat _ _ (by have := (t <<< 1).isLt; omega) (by omega)]
  unfold M
  rw [h, if_pos rfl, BitVec.toNat_xor]; rfl
theorem bit40_int (b : BitVec 40) (i : Nat) : bits .and .u64 ((b.toNat : Int) / 2 ^ i) 1 = if b.getLsbD i then 1 else 0 := by
  have hb := b.isLt
  rw [show ((b.toNat : Int) / 2 ^ i) = ((b.toNat / 2 ^ i : Nat) : Int) by simp, show (1 : Int) = ((1 : Nat) : Int) from rfl]
  have h1 : b.toNat / 2 ^ i < 2 ^ 40 := Nat.lt_of_le_of_lt (Nat.div_le_self _ _) hb
  rw [u64_and_nat _ _ (by omega) (by omega), nat_mask1, BitVec.getLsbD, Nat.testBit_eq_decide_div_mod_eq]
  have : b.toNat / 2 ^ i % 2 < 2 := Nat.mod_lt _ (by omega)
  rcases h : b.toNat / 2 ^ i % 2 with _ | _ | x
  · rfl
  · rfl
  · omega
theorem xor40_int (a b : BitVec 40) : bits .xor .u64 (a.toNat : Int) (b.toNat : Int) = ((a ^^^ b).toNat : Int) := by
  have ha := a.isLt
  have hb := b.isLt
  rw [u64_xor_nat _ _ (by omega) (by omega), BitVec.toNat_xor]

set_option maxHeartbeats 1000000 in
theorem times_any (a b : BitVec 40) (w : World) (hg : GNib w) :
    Calls Tryd.prog 43 #[.int .u64 (a.toNat : Nat), .int .u64 (b.toNat : Nat)] w fun e w' => e = .returned (.int .u64 ((T a b 40).toNat : Nat)) ∧ w = w' := by
  have ha := a.isLt
  have hb := b.isLt
  have hc := hg 1 (by omega)
  rw [show tab.getD 1 0 = 75628553 from rfl] at hc
  clear hg
  go_enter Tryd.func43, Tryd.ntmps43
  go_wp2
  go_loop [5, 6] (fun out i => ∃ k : Nat, k ≤ 40 ∧ i = .int .i64 (39 - k) ∧ out = .int .u64 ((T a b k).toNat : Nat)) (fun _ i => (1 + intOf i).toNat)
  case atStart => exact ⟨0, Nat.zero_le _, rfl, rfl⟩
  case round =>
    obtain ⟨k, hk, rfl, rfl⟩ := hrel
    by_cases hlt : k < 40
    · have HT := Lib.hid (show T a b (k + 1) = M (T a b k) ^^^ (if b.getLsbD (39 - k) then a else 0#40) from rfl)
      have hbit := bit40_int b (39 - k)
      have hx := xor40_int (M (T a b k)) a
      have hM := (M (T a b k)).isLt
      have htl := (T a b k).isLt
      generalize hbc : b.getLsbD (39 - k) = bb at *
      cases hms : (T a b k).msb
      · obtain ⟨h1, h2⟩ := M_nat0 _ hms
        rw [h1] at hM
        have hx2 : bits .xor .u64 (((T a b k).toNat : Int) * 2) (a.toNat : Int) = ((M (T a b k) ^^^ a).toNat : Int) := by
          rw [← hx, h1]; rfl
        clear hx
        generalize hR : M (T a b k) ^^^ a = R at *
        cases bb
        all_goals
          simp at hbit
          clear hbc hms
          have H1 := Lib.hid h1
          clear h1
          go_wp2
          refine ⟨⟨k + 1, by omega, by go_num, ?_⟩, by simp [intOf]; omega⟩
          rw [HT.out]
          simp [H1.out, hR]
      · obtain ⟨h1, h2⟩ := M_nat1 _ hms
        cases bb
        all_goals
          simp at hbit
          clear hbc hms
          go_wp2
          refine ⟨⟨k + 1, by omega, by go_num, ?_⟩, by simp [intOf]; omega⟩
          rw [HT.out]
          simp
    · obtain rfl : k = 40 := by omega
      go_wp2
      go_ret
      exact ⟨rfl, rfl⟩

/-- The check of a, and of b behind it by n bytes. -/
def jn (a b : Int) (n : Nat) : BitVec 40 := Mi (8 * n) (BitVec.ofInt 40 a) ^^^ BitVec.ofInt 40 b
theorem ofInt40 (a : Int) : ((BitVec.ofInt 40 a).toNat : Int) = a % 1099511627776 := by
  rw [BitVec.toNat_ofInt]; omega
theorem i64_and1 (a : Int) : bits .and .i64 a 1 = a % 2 := by
  show IntKind.i64.wrap ((BitVec.ofInt 64 a &&& BitVec.ofInt 64 1).toNat : Int) = _
  rw [BitVec.toNat_and, show (BitVec.ofInt 64 1).toNat = 2 ^ 1 - 1 from by decide, Nat.and_two_pow_sub_one_eq_mod, BitVec.toNat_ofInt, IntKind.wrap_i64]
  omega
theorem wrapmask (a : Int) : IntKind.u64.wrap a % 1099511627776 = ((BitVec.ofInt 40 a).toNat : Int) := by
  rw [ofInt40, IntKind.wrap_u64]; omega
set_option maxHeartbeats 1000000 in
theorem join_any (a b n : Int) (w : World) (h0 : 0 ≤ n) (h1 : n ≤ 9223372036854775807) (hg : GNib w) :
    Calls Tryd.prog 26 #[.int .i64 a, .int .i64 b, .int .i64 n] w fun e w' => e = .returned (.int .i64 ((jn a b n.toNat).toNat : Nat)) ∧ w = w' := by
  have hm := i64_and_mask40
  have wa := wrapmask a
  have wb := wrapmask b
  have hfin : ∀ d, jn a b d = Mi (8 * d) (BitVec.ofInt 40 a) ^^^ BitVec.ofInt 40 b := fun _ => rfl
  generalize BitVec.ofInt 40 a = a4 at *
  generalize BitVec.ofInt 40 b = b4 at *
  have HF := Lib.hid hfin
  clear hfin
  have hd : ¬ n < 0 := by omega
  go_enter Tryd.func26, Tryd.ntmps26
  go_wp2_with fail
  go_loop [2, 7, 8] (fun m out pw => ∃ m1 d p : Nat, m = .int .i64 m1 ∧ n.toNat = d + m1 * p ∧ m1 ≤ 9223372036854775807 ∧ out = .int .u64 ((Mi (8 * d) a4).toNat : Nat) ∧ pw = .int .u64 ((Mi (8 * p) 1#40).toNat : Nat)) (fun m _ _ => (intOf m).toNat)
  case atStart => exact ⟨n.toNat, 0, 1, by rw [Int.toNat_of_nonneg h0], by omega, by omega, rfl, rfl⟩
  case round =>
    obtain ⟨m1, d, p, rfl, hn, hm1, rfl, rfl⟩ := hrel
    have HN := Lib.hid hn
    clear hn
    by_cases hlt : 0 < m1
    · have hodd := i64_and1 m1
      rcases Nat.mod_two_eq_zero_or_one m1 with hq | hq
      · have ht : ((m1 : Int) % 2 == 1) = false := by rw [beq_eq_false_iff_ne]; omega
        clear hq
        go_wp2_with fail
        refine (times_any _ _ _ hg).mono ?_
        rintro e w' ⟨rfl, rfl⟩
        go_wp2_with fail
        refine ⟨⟨m1 / 2, d, 2 * p, by go_num, ?_, by omega, rfl, ?_⟩, by simp [intOf]; omega⟩
        · rw [HN.out]
          have e : m1 = 2 * (m1 / 2) := by simp at ht; omega
          have : m1 * p = m1 / 2 * (2 * p) := by
            conv => lhs; rw [e]
            rw [Nat.mul_comm 2, Nat.mul_assoc]
          omega
        · rw [T_pow, ← Mi_add, show 8 * p + 8 * p = 8 * (2 * p) by omega]
      · have ht : ((m1 : Int) % 2 == 1) = true := by rw [beq_iff_eq]; omega
        clear hq
        go_wp2_with fail
        refine (times_any _ _ _ hg).mono ?_
        rintro e w' ⟨rfl, rfl⟩
        go_wp2_with fail
        refine (times_any _ _ _ hg).mono ?_
        rintro e w' ⟨rfl, rfl⟩
        go_wp2_with fail
        refine ⟨⟨m1 / 2, d + p, 2 * p, by go_num, ?_, by omega, ?_, ?_⟩, by simp [intOf]; omega⟩
        · rw [HN.out]
          have e : m1 = 2 * (m1 / 2) + 1 := by simp at ht; omega
          have : m1 * p = m1 / 2 * (2 * p) + p := by
            conv => lhs; rw [e]
            rw [Nat.add_mul, Nat.mul_comm 2, Nat.mul_assoc, Nat.one_mul]
          omega
        · rw [T_pow, ← Mi_add, show 8 * p + 8 * d = 8 * (d + p) by omega]
        · rw [T_pow, ← Mi_add, show 8 * p + 8 * p = 8 * (2 * p) by omega]
    · obtain rfl : m1 = 0 := by omega
      have hx := xor40_int (Mi (8 * d) a4) b4
      have hxl := (Mi (8 * d) a4 ^^^ b4).isLt
      have hf2 : jn a b n.toNat = Mi (8 * d) a4 ^^^ b4 := by rw [HF.out, HN.out]; simp
      generalize Mi (8 * d) a4 ^^^ b4 = R at *
      have HF2 := Lib.hid hf2
      clear hf2
      go_wp2
      go_ret
      exact ⟨by rw [HF2.out]; rfl, rfl⟩

theorem join_neg (a b n : Int) (w : World) (h0 : n < 0) :
    Calls Tryd.prog 26 #[.int .i64 a, .int .i64 b, .int .i64 n] w fun e w' => e = .returned (.int .i64 0) ∧ w = w' := by
  go_enter Tryd.func26, Tryd.ntmps26
  go_wp2
  go_ret
  exact ⟨rfl, rfl⟩
theorem refJoin_neg (a b n : Int) (w : World) (h0 : n < 0) :
    Calls Tryd.prog 27 #[.int .i64 a, .int .i64 b, .int .i64 n] w fun e w' => e = .returned (.int .i64 0) ∧ w = w' := by
  go_enter Tryd.func27, Tryd.ntmps27
  go_wp2
  go_ret
  exact ⟨rfl, rfl⟩
set_option maxHeartbeats 1000000 in
theorem refJoin_any (a b n : Int) (w : World) (h0 : 0 ≤ n) (h1 : n ≤ 1000000) :
    Calls Tryd.prog 27 #[.int .i64 a, .int .i64 b, .int .i64 n] w fun e w' => e = .returned (.int .i64 ((jn a b n.toNat).toNat : Nat)) ∧ w = w' := by
  have hm := i64_and_mask40
  have wa := wrapmask a
  have wb := wrapmask b
  have hfin : ∀ d, jn a b d = Mi (8 * d) (BitVec.ofInt 40 a) ^^^ BitVec.ofInt 40 b := fun _ => rfl
  generalize BitVec.ofInt 40 a = a4 at *
  generalize BitVec.ofInt 40 b = b4 at *
  have HF := Lib.hid hfin
  clear hfin
  have hd : ¬ n < 0 := by omega
  go_enter Tryd.func27, Tryd.ntmps27
  go_wp2_with fail
  go_loop [7, 8] (fun reg i => ∃ k : Nat, (k : Int) ≤ 8 * n ∧ i = .int .i64 k ∧ reg = .int .u64 ((Mi k a4).toNat : Nat)) (fun _ i => (8 * n - intOf i).toNat)
  case atStart => exact ⟨0, by omega, rfl, rfl⟩
  case round =>
    obtain ⟨k, hk, rfl, rfl⟩ := hrel
    by_cases hlt : (k : Int) < 8 * n
    · go_wp2_with (go_at_call 40; refine (step_int _ _ false _ rfl).mono ?_; rintro e w' ⟨rfl, rfl⟩)
      refine ⟨⟨k + 1, by omega, by go_num, ?_⟩, by simp [intOf]; omega⟩
      simp [stp, Mi]
    · have hx := xor40_int (Mi k a4) b4
      have hxl := (Mi k a4 ^^^ b4).isLt
      have hf2 : jn a b n.toNat = Mi k a4 ^^^ b4 := by rw [HF.out, show 8 * n.toNat = k by omega]
      generalize Mi k a4 ^^^ b4 = R at *
      have HF2 := Lib.hid hf2
      clear hf2
      go_wp2
      go_ret
      exact ⟨by rw [HF2.out]; rfl, rfl⟩
end Go.Proofs.YtnfmgklpibknfaaDoor
