/-
  What is known of the functions that the laws of this seat reach, joined. Conditions: each theorem's own.
-/
import Derived.Test.YtcapckngikekpaaGreatDoorD2
import Derived.Test.YtcapckngikekpaaGreatDoorD6
import Derived.Test.YtcapckngikekpaaGreatDoorD3
namespace Go.Proofs.YtcapckngikekpaaGreatDoor
set_option linter.unusedSimpArgs false
set_option linter.unusedVariables false
open Go.RowKit
/-- The sign goes to the lowest bit. -/
def zz (n : Int) : Nat := if 0 ≤ n then (2 * n).toNat else (2 * (-1 - n) + 1).toNat
theorem zz_lt (n : Int) (h1 : -9223372036854775808 ≤ n) (h2 : n ≤ 9223372036854775807) : zz n < 18446744073709551616 := by unfold zz; split <;> omega
theorem zz_nat (m : Nat) : zz (m : Int) = 2 * m := by unfold zz; rw [if_pos (by omega)]; omega
def encI (n : Int) : List UInt8 := vint 9 (zz n)
def encInts (l : List Int) : List UInt8 := encI l.length ++ l.flatMap encI
theorem xor_onesI (a : Nat) (h : a < 18446744073709551616) : bits .xor .u64 (a : Int) 18446744073709551615 = ((18446744073709551615 - a : Nat) : Int) := by
  rw [show (18446744073709551615 : Int) = ((18446744073709551615 : Nat) : Int) from rfl, u64_xor_bv a _ h (by omega)]
  congr 1
  have := congrArg BitVec.toNat (BitVec.xor_allOnes (x := BitVec.ofNat 64 a))
  rw [BitVec.toNat_xor, BitVec.toNat_not, BitVec.toNat_ofNat, BitVec.toNat_allOnes, Nat.mod_eq_of_lt (by omega)] at this
  exact this
theorem zig_pos (n : Int) (h1 : 0 ≤ n) (h2 : n ≤ 9223372036854775807) : bits .xor .u64 (n * 2) (n / 9223372036854775808) = ((zz n : Nat) : Int) := by
  rw [show n / 9223372036854775808 = 0 by omega]
  obtain ⟨m, rfl⟩ : ∃ m : Nat, n = m := ⟨n.toNat, by omega⟩
  have := u64_xor_bv (2 * m) 0 (by omega) (by omega)
  rw [show ((m : Int) * 2) = ((2 * m : Nat) : Int) by omega, show (0 : Int) = ((0 : Nat) : Int) from rfl, this, zz_nat]
  simp
theorem zig_neg (n : Int) (h1 : n < 0) (h2 : -9223372036854775808 ≤ n) : bits .xor .u64 (IntKind.u64.wrap (IntKind.u64.wrap n * 2)) (IntKind.u64.wrap (n / 9223372036854775808)) = ((zz n : Nat) : Int) := by
  rw [show n / 9223372036854775808 = -1 by omega, IntKind.wrap_u64, IntKind.wrap_u64, IntKind.wrap_u64]
  rw [show (-1 : Int) % 18446744073709551616 = 18446744073709551615 by decide]
  obtain ⟨m, hm⟩ : ∃ m : Nat, (m : Int) = n % 18446744073709551616 * 2 % 18446744073709551616 := ⟨(n % 18446744073709551616 * 2 % 18446744073709551616).toNat, by omega⟩
  rw [← hm, xor_onesI m (by omega)]
  congr 1
  unfold zz
  rw [if_neg (by omega)]
  omega
set_option maxHeartbeats 1000000 in
theorem wireIntZ_any (n : Int) (w : World) (h1 : -9223372036854775808 ≤ n) (h2 : n ≤ 9223372036854775807) :
    Calls Tryz.prog 106 #[.int .i64 n] w fun e w' => ∃ v, e = .returned v ∧ Own w' w.heap.size 5 v (bv (encI n)) ∧ Below w.heap.size w w' := by
  have HZ := Lib.hid (zz_lt n h1 h2)
  by_cases hs : 0 ≤ n
  · have hx := zig_pos n hs h2
    go_enter Tryz.func106, Tryz.ntmps106
    go_wp2_with fail
    go_loopw [3, 4] (fun x v wr => ∃ (f z : Nat) (acc : List UInt8), x = .int .u64 z ∧ z < 128 ^ (f + 1) ∧ f + acc.length ≤ 9 ∧ acc ++ vint f z = encI n ∧ Own wr w.heap.size 5 v (bv acc) ∧ Below w.heap.size w wr) (fun x _ _ => (intOf x).toNat)
    case atStart => exact ⟨9, zz n, [], rfl, by have := HZ.out; omega, by simp, by simp [encI], Own.nil _ _ _, Below.refl _ _⟩
    case round =>
      obtain ⟨f, z, acc, rfl, hzf, hfa, hacc, hown, hb⟩ := hrel
      have hz := hb.size
      have hzl : z < 1180591620717411303424 := by
        have : 128 ^ (f + 1) ≤ 128 ^ 10 := Nat.pow_le_pow_right (by omega) (by omega)
        omega
      have HA := Lib.hid hacc
      clear hacc
      by_cases hlt : z < 128
      · have hv := vint_small f z hlt
        have HV := Lib.hid hv
        have hz2 : ¬ (127 : Int) < z := by omega
        have hd : decide ((127 : Int) < (z : Int)) = false := by simpa using hz2
        clear hv hzf hzl
        go_wp2_with (at_builtin; refine wpList_app rfl rfl elemBytes rfl (hown.alloc _) rfl (Rd.new1 _ _ _) (one1 rfl) (by rw [length_bv]; omega) (by simp; omega) ?_; intro v' w' hown' hg' hb' _)
        go_ret
        refine ⟨_, rfl, ?_, (hb.alloc hz _).trans hb'⟩
        rw [← HA.out, HV.out, bv_append, show bv [UInt8.ofNat z] = [.int .u8 (z : Nat)] by simp [bv, UInt8.toNat_ofNat']; omega]
        exact hown'
      · obtain ⟨f, rfl⟩ : ∃ g, f = g + 1 := by
          cases f with
          | zero => exfalso; simp at hzf; omega
          | succ f => exact ⟨f, rfl⟩
        have hv := vint_big f z hlt
        have HV := Lib.hid hv
        have hd : decide ((127 : Int) < (z : Int)) = true := by simp; omega
        have ho := or128_int z
        have hq : z / 128 < 128 ^ (f + 1) := by
          rw [Nat.div_lt_iff_lt_mul (by omega)]; rw [Nat.pow_succ] at hzf; exact hzf
        have HQ := Lib.hid hq
        clear hv hzf hq
        go_wp2_with (at_builtin; refine wpList_app rfl rfl elemBytes rfl (hown.alloc _) rfl (Rd.new1 _ _ _) (one1 rfl) (by rw [length_bv]; omega) (by simp; omega) ?_; intro v' w' hown' hg' hb' _)
        refine ⟨⟨f, z / 128, acc ++ [UInt8.ofNat (z % 128 + 128)], by simp, HQ.out, by simp; omega, by rw [← HA.out, HV.out, List.append_assoc]; rfl, ?_, (hb.alloc hz _).trans hb'⟩, ?_⟩
        · rw [bv_append, show bv [UInt8.ofNat (z % 128 + 128)] = [.int .u8 ((z % 128 + 128 : Nat) : Int)] by simp [bv, UInt8.toNat_ofNat']; omega]
          exact hown'
        · simp [intOf]; omega
  · have hx := zig_neg n (by omega) h1
    go_enter Tryz.func106, Tryz.ntmps106
    go_wp2_with fail
    go_loopw [3, 4] (fun x v wr => ∃ (f z : Nat) (acc : List UInt8), x = .int .u64 z ∧ z < 128 ^ (f + 1) ∧ f + acc.length ≤ 9 ∧ acc ++ vint f z = encI n ∧ Own wr w.heap.size 5 v (bv acc) ∧ Below w.heap.size w wr) (fun x _ _ => (intOf x).toNat)
    case atStart => exact ⟨9, zz n, [], rfl, by have := HZ.out; omega, by simp, by simp [encI], Own.nil _ _ _, Below.refl _ _⟩
    case round =>
      obtain ⟨f, z, acc, rfl, hzf, hfa, hacc, hown, hb⟩ := hrel
      have hz := hb.size
      have hzl : z < 1180591620717411303424 := by
        have : 128 ^ (f + 1) ≤ 128 ^ 10 := Nat.pow_le_pow_right (by omega) (by omega)
        omega
      have HA := Lib.hid hacc
      clear hacc
      by_cases hlt : z < 128
      · have hv := vint_small f z hlt
        have HV := Lib.hid hv
        have hz2 : ¬ (127 : Int) < z := by omega
        have hd : decide ((127 : Int) < (z : Int)) = false := by simpa using hz2
        clear hv hzf hzl
        go_wp2_with (at_builtin; refine wpList_app rfl rfl elemBytes rfl (hown.alloc _) rfl (Rd.new1 _ _ _) (one1 rfl) (by rw [length_bv]; omega) (by simp; omega) ?_; intro v' w' hown' hg' hb' _)
        go_ret
        refine ⟨_, rfl, ?_, (hb.alloc hz _).trans hb'⟩
        rw [← HA.out, HV.out, bv_append, show bv [UInt8.ofNat z] = [.int .u8 (z : Nat)] by simp [bv, UInt8.toNat_ofNat']; omega]
        exact hown'
      · obtain ⟨f, rfl⟩ : ∃ g, f = g + 1 := by
          cases f with
          | zero => exfalso; simp at hzf; omega
          | succ f => exact ⟨f, rfl⟩
        have hv := vint_big f z hlt
        have HV := Lib.hid hv
        have hd : decide ((127 : Int) < (z : Int)) = true := by simp; omega
        have ho := or128_int z
        have hq : z / 128 < 128 ^ (f + 1) := by
          rw [Nat.div_lt_iff_lt_mul (by omega)]; rw [Nat.pow_succ] at hzf; exact hzf
        have HQ := Lib.hid hq
        clear hv hzf hq
        go_wp2_with (at_builtin; refine wpList_app rfl rfl elemBytes rfl (hown.alloc _) rfl (Rd.new1 _ _ _) (one1 rfl) (by rw [length_bv]; omega) (by simp; omega) ?_; intro v' w' hown' hg' hb' _)
        refine ⟨⟨f, z / 128, acc ++ [UInt8.ofNat (z % 128 + 128)], by simp, HQ.out, by simp; omega, by rw [← HA.out, HV.out, List.append_assoc]; rfl, ?_, (hb.alloc hz _).trans hb'⟩, ?_⟩
        · rw [bv_append, show bv [UInt8.ofNat (z % 128 + 128)] = [.int .u8 ((z % 128 + 128 : Nat) : Int)] by simp [bv, UInt8.toNat_ofNat']; omega]
          exact hown'
        · simp [intOf]; omega
theorem zz_ref_pos (n : Int) (h1 : 0 ≤ n) (h2 : n ≤ 9223372036854775807) : n * 2 = ((zz n : Nat) : Int) := by unfold zz; rw [if_pos h1]; omega
theorem zz_ref_neg (n : Int) (h1 : n < 0) (h2 : -9223372036854775808 ≤ n) : (-1 - n) * 2 + 1 = ((zz n : Nat) : Int) := by unfold zz; rw [if_neg (by omega)]; omega
set_option maxHeartbeats 1000000 in
theorem refIntZ_any (n : Int) (w : World) (h1 : -9223372036854775808 ≤ n) (h2 : n ≤ 9223372036854775807) :
    Calls Tryz.prog 107 #[.int .i64 n] w fun e w' => ∃ v, e = .returned v ∧ Own w' w.heap.size 5 v (bv (encI n)) ∧ Below w.heap.size w w' := by
  have HZ := Lib.hid (zz_lt n h1 h2)
  by_cases hs : n < 0
  · have hx := zz_ref_neg n hs h1
    go_enter Tryz.func107, Tryz.ntmps107
    go_wp2_with fail
    go_loopw [3, 4] (fun x v wr => ∃ (f z : Nat) (acc : List UInt8), x = .int .u64 z ∧ z < 128 ^ (f + 1) ∧ f + acc.length ≤ 9 ∧ acc ++ vint f z = encI n ∧ Own wr w.heap.size 5 v (bv acc) ∧ Below w.heap.size w wr) (fun x _ _ => (intOf x).toNat)
    case atStart => exact ⟨9, zz n, [], rfl, by have := HZ.out; omega, by simp, by simp [encI], Own.nil _ _ _, Below.refl _ _⟩
    case round =>
      obtain ⟨f, z, acc, rfl, hzf, hfa, hacc, hown, hb⟩ := hrel
      have hz := hb.size
      have hzl : z < 1180591620717411303424 := by
        have : 128 ^ (f + 1) ≤ 128 ^ 10 := Nat.pow_le_pow_right (by omega) (by omega)
        omega
      have HA := Lib.hid hacc
      clear hacc
      by_cases hlt : z < 128
      · have hv := vint_small f z hlt
        have HV := Lib.hid hv
        have hd : decide ((128 : Int) ≤ (z : Int)) = false := by simp; omega
        clear hv hzf hzl
        go_wp2_with (at_builtin; refine wpList_app rfl rfl elemBytes rfl (hown.alloc _) rfl (Rd.new1 _ _ _) (one1 rfl) (by rw [length_bv]; omega) (by simp; omega) ?_; intro v' w' hown' hg' hb' _)
        go_ret
        refine ⟨_, rfl, ?_, (hb.alloc hz _).trans hb'⟩
        rw [← HA.out, HV.out, bv_append, show bv [UInt8.ofNat z] = [.int .u8 (z : Nat)] by simp [bv, UInt8.toNat_ofNat']; omega]
        exact hown'
      · obtain ⟨f, rfl⟩ : ∃ g, f = g + 1 := by
          cases f with
          | zero => exfalso; simp at hzf; omega
          | succ f => exact ⟨f, rfl⟩
        have hv := vint_big f z hlt
        have HV := Lib.hid hv
        have hd : decide ((128 : Int) ≤ (z : Int)) = true := by simp; omega
        have hq : z / 128 < 128 ^ (f + 1) := by
          rw [Nat.div_lt_iff_lt_mul (by omega)]; rw [Nat.pow_succ] at hzf; exact hzf
        have HQ := Lib.hid hq
        clear hv hzf hq
        go_wp2_with (at_builtin; refine wpList_app rfl rfl elemBytes rfl (hown.alloc _) rfl (Rd.new1 _ _ _) (one1 rfl) (by rw [length_bv]; omega) (by simp; omega) ?_; intro v' w' hown' hg' hb' _)
        refine ⟨⟨f, z / 128, acc ++ [UInt8.ofNat (z % 128 + 128)], by simp, HQ.out, by simp; omega, by rw [← HA.out, HV.out, List.append_assoc]; rfl, ?_, (hb.alloc hz _).trans hb'⟩, ?_⟩
        · rw [bv_append, show bv [UInt8.ofNat (z % 128 + 128)] = [.int .u8 ((z : Int) % 128 + 128)] by simp [bv, UInt8.toNat_ofNat']; omega]
          exact hown'
        · simp [intOf]; omega
  · have hx := zz_ref_pos n (by omega) h2
    go_enter Tryz.func107, Tryz.ntmps107
    go_wp2_with fail
    go_loopw [3, 4] (fun x v wr => ∃ (f z : Nat) (acc : List UInt8), x = .int .u64 z ∧ z < 128 ^ (f + 1) ∧ f + acc.length ≤ 9 ∧ acc ++ vint f z = encI n ∧ Own wr w.heap.size 5 v (bv acc) ∧ Below w.heap.size w wr) (fun x _ _ => (intOf x).toNat)
    case atStart => exact ⟨9, zz n, [], rfl, by have := HZ.out; omega, by simp, by simp [encI], Own.nil _ _ _, Below.refl _ _⟩
    case round =>
      obtain ⟨f, z, acc, rfl, hzf, hfa, hacc, hown, hb⟩ := hrel
      have hz := hb.size
      have hzl : z < 1180591620717411303424 := by
        have : 128 ^ (f + 1) ≤ 128 ^ 10 := Nat.pow_le_pow_right (by omega) (by omega)
        omega
      have HA := Lib.hid hacc
      clear hacc
      by_cases hlt : z < 128
      · have hv := vint_small f z hlt
        have HV := Lib.hid hv
        have hd : decide ((128 : Int) ≤ (z : Int)) = false := by simp; omega
        clear hv hzf hzl
        go_wp2_with (at_builtin; refine wpList_app rfl rfl elemBytes rfl (hown.alloc _) rfl (Rd.new1 _ _ _) (one1 rfl) (by rw [length_bv]; omega) (by simp; omega) ?_; intro v' w' hown' hg' hb' _)
        go_ret
        refine ⟨_, rfl, ?_, (hb.alloc hz _).trans hb'⟩
        rw [← HA.out, HV.out, bv_append, show bv [UInt8.ofNat z] = [.int .u8 (z : Nat)] by simp [bv, UInt8.toNat_ofNat']; omega]
        exact hown'
      · obtain ⟨f, rfl⟩ : ∃ g, f = g + 1 := by
          cases f with
          | zero => exfalso; simp at hzf; omega
          | succ f => exact ⟨f, rfl⟩
        have hv := vint_big f z hlt
        have HV := Lib.hid hv
        have hd : decide ((128 : Int) ≤ (z : Int)) = true := by simp; omega
        have hq : z / 128 < 128 ^ (f + 1) := by
          rw [Nat.div_lt_iff_lt_mul (by omega)]; rw [Nat.pow_succ] at hzf; exact hzf
        have HQ := Lib.hid hq
        clear hv hzf hq
        go_wp2_with (at_builtin; refine wpList_app rfl rfl elemBytes rfl (hown.alloc _) rfl (Rd.new1 _ _ _) (one1 rfl) (by rw [length_bv]; omega) (by simp; omega) ?_; intro v' w' hown' hg' hb' _)
        refine ⟨⟨f, z / 128, acc ++ [UInt8.ofNat (z % 128 + 128)], by simp, HQ.out, by simp; omega, by rw [← HA.out, HV.out, List.append_assoc]; rfl, ?_, (hb.alloc hz _).trans hb'⟩, ?_⟩
        · rw [bv_append, show bv [UInt8.ofNat (z % 128 + 128)] = [.int .u8 ((z : Int) % 128 + 128)] by simp [bv, UInt8.toNat_ofNat']; omega]
          exact hown'
        · simp [intOf]; omega
theorem length_encI (n : Int) : (encI n).length ≤ 10 := length_vint 9 (zz n)
theorem length_flatI : ∀ l : List Int, (l.flatMap encI).length ≤ l.length * 10
  | [] => by simp
  | x :: l => by have := length_flatI l; have := length_encI x; simp only [List.flatMap_cons, List.length_append, List.length_cons]; omega
def fits64 (l : List Int) : Prop := ∀ x ∈ l, -9223372036854775808 ≤ x ∧ x ≤ 9223372036854775807
set_option maxHeartbeats 1000000 in
theorem wireList_any (A : Option Addr) (n c : Nat) (l : List Int) (w : World) (hr : Rd w A n (iv l)) (hn : n ≤ 1000) (hf : fits64 l) :
    Calls Tryz.prog 105 #[.slice A n c, .func (.func 106) #[] #[]] w fun e w' => ∃ v, e = .returned v ∧ Own w' w.heap.size 5 v (bv (encInts l)) ∧ Below w.heap.size w w' := by
  have HL := Lib.hid (show l.length = n by have := hr.len; simpa using this)
  have HF := Lib.hid hf
  clear hf
  have HE := Lib.hid (show encInts l = encI n ++ l.flatMap encI by unfold encInts; rw [HL.out])
  go_enter Tryz.func105, Tryz.ntmps105
  go_wp2_with fail
  refine (wireIntZ_any n _ (by omega) (by omega)).mono ?_
  rintro e w1 ⟨v1, rfl, hown1, hb1⟩
  go_wp2_with fail
  go_loopw [5, 7, 13] (fun v _ j wr => ∃ k : Nat, k ≤ n ∧ j = .int .i64 k ∧ Below w.heap.size w wr ∧ Own wr w.heap.size 5 v (bv (encI n ++ (l.take k).flatMap encI))) (fun _ _ j _ => n - (intOf j).toNat)
  case atStart => exact ⟨0, Nat.zero_le _, rfl, hb1, by simpa using hown1⟩
  case round =>
    clear hown1
    obtain ⟨k, hk, rfl, hbw, hown⟩ := hrel
    by_cases hlt : k < n
    · obtain ⟨ad, rfl, hc⟩ := (hr.below hbw).int hlt HL.out
      have HT := Lib.hid (List.take_succ_eq_append_getElem (show k < l.length by have := HL.out; omega))
      have HX := Lib.hid (HF.out _ (List.getElem_mem (show k < l.length by have := HL.out; omega)))
      generalize l[k]'(by have := HL.out; omega) = x at *
      have HS := Lib.hid (show bv (encI n ++ (l.take (k + 1)).flatMap encI) = bv (encI n ++ (l.take k).flatMap encI) ++ bv (encI x) by rw [HT.out, ← bv_append]; simp)
      have HN : Hid ((encI n ++ (l.take k).flatMap encI).length ≤ 20000) := Lib.hid (by
        have := length_encI n
        have := length_flatI (l.take k)
        have := List.length_take_le k l
        simp only [List.length_append]; omega)
      go_wp2_with fail
      refine (wireIntZ_any x _ HX.out.1 HX.out.2).mono ?_
      rintro e w2 ⟨v2, rfl, hown2, hb2⟩
      replace hown := hown.below hb2
      have hbw2 := bstep hbw hb2
      obtain ⟨A2, n2, c2, rfl, hn2, hn2c, hc2, hr2⟩ := hown2.formN
      have HN2 := Lib.hid (show n2 ≤ 10 by have := hn2.out; have := length_encI x; simp at *; omega)
      clear hn2 hown2 hc
      go_wp2_with (at_builtin; refine wpList_app rfl rfl elemBytes rfl hown rfl hr2 (oneCell_bv _) (by rw [length_bv]; have := HN.out; have := HN2.out; omega) hbw2.size ?_; intro v' w' hown3 _ hb3 _)
      rw [← HS.out] at hown3
      exact ⟨⟨k + 1, by omega, by go_num, hbw2.trans hb3, hown3⟩, by simp [intOf]; omega⟩
    · obtain rfl : k = n := by omega
      have HT := Lib.hid (show l.take k = l by rw [List.take_of_length_le (by have := HL.out; omega)])
      rw [HT.out, ← HE.out] at hown
      go_wp2
      go_ret
      exact ⟨_, rfl, hown, hbw⟩
theorem wireInts_any (A : Option Addr) (n c : Nat) (l : List Int) (w : World) (hr : Rd w A n (iv l)) (hn : n ≤ 1000) (hf : fits64 l) :
    Calls Tryz.prog 56 #[.slice A n c] w fun e w' => ∃ v, e = .returned v ∧ Own w' w.heap.size 5 v (bv (encInts l)) ∧ Below w.heap.size w w' := by
  go_enter Tryz.func56, Tryz.ntmps56
  go_wp2_with fail
  refine (wireList_any A n c l _ hr hn hf).mono ?_
  rintro e w1 ⟨v1, rfl, hown1, hb1⟩
  go_wp2_with fail
  go_ret
  exact ⟨_, rfl, hown1, hb1⟩
set_option maxHeartbeats 1000000 in
theorem refInts_any (A : Option Addr) (n c : Nat) (l : List Int) (w : World) (hr : Rd w A n (iv l)) (hn : n ≤ 1000) (hf : fits64 l) :
    Calls Tryz.prog 58 #[.slice A n c] w fun e w' => ∃ v, e = .returned v ∧ Own w' w.heap.size 5 v (bv (encInts l)) ∧ Below w.heap.size w w' := by
  have HL := Lib.hid (show l.length = n by have := hr.len; simpa using this)
  have HF := Lib.hid hf
  clear hf
  have HE := Lib.hid (show encInts l = encI n ++ l.flatMap encI by unfold encInts; rw [HL.out])
  go_enter Tryz.func58, Tryz.ntmps58
  go_wp2_with fail
  refine (refIntZ_any n _ (by omega) (by omega)).mono ?_
  rintro e w1 ⟨v1, rfl, hown1, hb1⟩
  go_wp2_with fail
  go_loopw [3, 4] (fun v j wr => ∃ k : Nat, k ≤ n ∧ j = .int .i64 k ∧ Below w.heap.size w wr ∧ Own wr w.heap.size 5 v (bv (encI n ++ (l.take k).flatMap encI))) (fun _ j _ => n - (intOf j).toNat)
  case atStart => exact ⟨0, Nat.zero_le _, rfl, hb1, by simpa using hown1⟩
  case round =>
    clear hown1
    obtain ⟨k, hk, rfl, hbw, hown⟩ := hrel
    by_cases hlt : k < n
    · obtain ⟨ad, rfl, hc⟩ := (hr.below hbw).int hlt HL.out
      have HT := Lib.hid (List.take_succ_eq_append_getElem (show k < l.length by have := HL.out; omega))
      have HX := Lib.hid (HF.out _ (List.getElem_mem (show k < l.length by have := HL.out; omega)))
      generalize l[k]'(by have := HL.out; omega) = x at *
      have HS := Lib.hid (show bv (encI n ++ (l.take (k + 1)).flatMap encI) = bv (encI n ++ (l.take k).flatMap encI) ++ bv (encI x) by rw [HT.out, ← bv_append]; simp)
      have HN : Hid ((encI n ++ (l.take k).flatMap encI).length ≤ 20000) := Lib.hid (by
        have := length_encI n
        have := length_flatI (l.take k)
        have := List.length_take_le k l
        simp only [List.length_append]; omega)
      go_wp2_with fail
      refine (refIntZ_any x _ HX.out.1 HX.out.2).mono ?_
      rintro e w2 ⟨v2, rfl, hown2, hb2⟩
      replace hown := hown.below hb2
      have hbw2 := bstep hbw hb2
      obtain ⟨A2, n2, c2, rfl, hn2, hn2c, hc2, hr2⟩ := hown2.formN
      have HN2 := Lib.hid (show n2 ≤ 10 by have := hn2.out; have := length_encI x; simp at *; omega)
      clear hn2 hown2 hc
      go_wp2_with (at_builtin; refine wpList_app rfl rfl elemBytes rfl hown rfl hr2 (oneCell_bv _) (by rw [length_bv]; have := HN.out; have := HN2.out; omega) hbw2.size ?_; intro v' w' hown3 _ hb3 _)
      rw [← HS.out] at hown3
      exact ⟨⟨k + 1, by omega, by go_num, hbw2.trans hb3, hown3⟩, by simp [intOf]; omega⟩
    · obtain rfl : k = n := by omega
      have HT := Lib.hid (show l.take k = l by rw [List.take_of_length_le (by have := HL.out; omega)])
      rw [HT.out, ← HE.out] at hown
      go_wp2
      go_ret
      exact ⟨_, rfl, hown, hbw⟩
/-- Texts, one behind the other, with their lengths. -/
def encStrs (l : List ByteArray) : List UInt8 := encI l.length ++ l.flatMap fun s => encB s.data.toList
end Go.Proofs.YtcapckngikekpaaGreatDoor
namespace Go.Proofs.YtcapckngikekpaaGreatDoor
set_option linter.unusedSimpArgs false
set_option linter.unusedVariables false
open Go.RowKit
theorem length_encBm (s : ByteArray) (h : s.size ≤ 65536) : (encB s.data.toList).length ≤ 65546 := by
  unfold encB
  rw [List.length_append]
  have := length_vint 9 (2 * s.data.toList.length)
  have e : s.data.toList.length = s.size := by simp
  omega
theorem length_flatS : ∀ l : List ByteArray, (∀ s ∈ l, s.size ≤ 65536) → (l.flatMap fun s => encB s.data.toList).length ≤ l.length * 65546
  | [], _ => by simp
  | x :: l, h => by
    have := length_flatS l (fun s hs => h s (by simp [hs]))
    have := length_encBm x (h x (by simp))
    simp only [List.flatMap_cons, List.length_append, List.length_cons]; omega
def encS (n : Nat) (l : List ByteArray) : List UInt8 := encI n ++ l.flatMap fun s => encB s.data.toList
theorem encS_next (n : Nat) (l : List ByteArray) (k : Nat) (h : k < l.length) : bv (encS n (l.take (k + 1))) = bv (encS n (l.take k)) ++ bv (encB l[k].data.toList) := by
  unfold encS
  rw [List.take_succ_eq_append_getElem h, ← bv_append, List.flatMap_append, List.append_assoc]
  simp only [List.flatMap_cons, List.flatMap_nil, List.append_nil]
theorem encS_len (n : Nat) (l : List ByteArray) (k : Nat) (hl : l.length ≤ 1000) (h : ∀ s ∈ l, s.size ≤ 65536) : (encS n (l.take k)).length ≤ 100000000 := by
  unfold encS
  rw [List.length_append]
  have := length_encI n
  have := length_flatS (l.take k) (fun s hs => h s (List.mem_of_mem_take hs))
  have : (l.take k).length ≤ l.length := by rw [List.length_take]; omega
  omega
set_option maxHeartbeats 1000000 in
theorem wireListS_any (A : Option Addr) (n c : Nat) (l : List ByteArray) (w : World) (hr : Rd w A n (sv l)) (hn : n ≤ 1000) (hs : ∀ s ∈ l, s.size ≤ 65536) :
    Calls Tryz.prog 144 #[.slice A n c, .func (.func 141) #[] #[]] w fun e w' => ∃ v, e = .returned v ∧ Own w' w.heap.size 5 v (bv (encStrs l)) ∧ Below w.heap.size w w' := by
  have HL := Lib.hid (show l.length = n by have := hr.len; simpa using this)
  have HSZ := Lib.hid hs
  have HLN := Lib.hid (fun k => encS_len n l k (by have := HL.out; omega) hs)
  have HNX := Lib.hid (encS_next n l)
  have HE : Hid (encStrs l = encS n (l.take n)) := Lib.hid (by unfold encStrs encS; rw [HL.out, List.take_of_length_le (by have := HL.out; omega)])
  have H0 : Hid (encI n = encS n (l.take 0)) := Lib.hid (by unfold encS; simp)
  clear hs
  go_enter Tryz.func144, Tryz.ntmps144
  go_wp2_with fail
  refine (wireIntZ_any n _ (by omega) (by omega)).mono ?_
  rintro e w1 ⟨v1, rfl, hown1, hb1⟩
  rw [H0.out] at hown1
  go_wp2_with fail
  go_loopw [5, 7, 13] (fun v _ j wr => ∃ k : Nat, k ≤ n ∧ j = .int .i64 k ∧ Below w.heap.size w wr ∧ Own wr w.heap.size 5 v (bv (encS n (l.take k)))) (fun _ _ j _ => n - (intOf j).toNat)
  case atStart => exact ⟨0, Nat.zero_le _, rfl, hb1, hown1⟩
  case round =>
    clear hown1
    obtain ⟨k, hk, rfl, hbw, hown⟩ := hrel
    by_cases hlt : k < n
    · obtain ⟨ad, rfl, hc⟩ := (hr.below hbw).str hlt HL.out
      have hkl : k < l.length := by have := HL.out; omega
      have HX := Lib.hid (HSZ.out _ (List.getElem_mem hkl))
      have HS := Lib.hid (HNX.out k hkl)
      have HN := Lib.hid (HLN.out k)
      generalize l[k]'(by have := HL.out; omega) = x at *
      clear hkl
      go_wp2_with fail
      refine (wireBytes_any x _ (by have := HX.out; omega)).mono ?_
      rintro e w2 ⟨v2, rfl, hown2, hb2⟩
      replace hown := hown.below hb2
      have hbw2 := bstep hbw hb2
      obtain ⟨A2, n2, c2, rfl, hn2, hn2c, hc2, hr2⟩ := hown2.formN
      have HN2 := Lib.hid (show n2 ≤ 65546 by have := hn2.out; have := length_encBm x HX.out; rw [length_bv] at *; omega)
      clear hn2 hown2 hc
      go_wp2_with (at_builtin; refine wpList_app rfl rfl elemBytes rfl hown rfl hr2 (oneCell_bv _) (by rw [length_bv]; have := HN.out; have := HN2.out; omega) hbw2.size ?_; intro v' w' hown3 _ hb3 _)
      rw [← HS.out] at hown3
      exact ⟨⟨k + 1, by omega, by go_num, hbw2.trans hb3, hown3⟩, by simp [intOf]; omega⟩
    · obtain rfl : k = n := by omega
      rw [← HE.out] at hown
      go_wp2
      go_ret
      exact ⟨_, rfl, hown, hbw⟩
theorem wireStrs_any (A : Option Addr) (n c : Nat) (l : List ByteArray) (w : World) (hr : Rd w A n (sv l)) (hn : n ≤ 1000) (hs : ∀ s ∈ l, s.size ≤ 65536) :
    Calls Tryz.prog 101 #[.slice A n c] w fun e w' => ∃ v, e = .returned v ∧ Own w' w.heap.size 5 v (bv (encStrs l)) ∧ Below w.heap.size w w' := by
  have HQ := Lib.hid (wireListS_any A n c l w hr hn hs)
  clear hr hs
  generalize encStrs l = R at *
  go_enter Tryz.func101, Tryz.ntmps101
  go_wp2_with fail
  refine HQ.out.mono ?_
  rintro e w1 ⟨v1, rfl, hown1, hb1⟩
  go_wp2_with fail
  go_ret
  exact ⟨_, rfl, hown1, hb1⟩
theorem encode_any (A : Option Addr) (n c : Nat) (l : List Int) (w : World) (hr : Rd w A n (iv l)) (hn : n ≤ 1000) (hf : fits64 l) :
    Calls Tryz.prog 100 #[.slice A n c] w fun e w' => ∃ v, e = .returned v ∧ Own w' w.heap.size 5 v (bv (encInts l)) ∧ Below w.heap.size w w' := by
  have HQ := Lib.hid (wireInts_any A n c l w hr hn hf)
  clear hr hf
  generalize encInts l = R at *
  go_enter Tryz.func100, Tryz.ntmps100
  go_wp2_with fail
  refine HQ.out.mono ?_
  rintro e w1 ⟨v1, rfl, hown1, hb1⟩
  go_wp2_with fail
  go_ret
  exact ⟨_, rfl, hown1, hb1⟩
theorem refEncode_any (A : Option Addr) (n c : Nat) (l : List Int) (w : World) (hr : Rd w A n (iv l)) (hn : n ≤ 1000) (hf : fits64 l) :
    Calls Tryz.prog 103 #[.slice A n c] w fun e w' => ∃ v, e = .returned v ∧ Own w' w.heap.size 5 v (bv (encInts l)) ∧ Below w.heap.size w w' := by
  have HQ := Lib.hid (refInts_any A n c l w hr hn hf)
  clear hr hf
  generalize encInts l = R at *
  go_enter Tryz.func103, Tryz.ntmps103
  go_wp2_with fail
  refine HQ.out.mono ?_
  rintro e w1 ⟨v1, rfl, hown1, hb1⟩
  go_wp2_with fail
  go_ret
  exact ⟨_, rfl, hown1, hb1⟩
set_option maxHeartbeats 1000000 in
theorem refStrs_any (A : Option Addr) (n c : Nat) (l : List ByteArray) (w : World) (hr : Rd w A n (sv l)) (hn : n ≤ 1000) (hs : ∀ s ∈ l, s.size ≤ 65536) :
    Calls Tryz.prog 104 #[.slice A n c] w fun e w' => ∃ v, e = .returned v ∧ Own w' w.heap.size 5 v (bv (encStrs l)) ∧ Below w.heap.size w w' := by
  have HL := Lib.hid (show l.length = n by have := hr.len; simpa using this)
  have HSZ := Lib.hid hs
  have HLN := Lib.hid (fun k => encS_len n l k (by have := HL.out; omega) hs)
  have HNX := Lib.hid (encS_next n l)
  have HE : Hid (encStrs l = encS n (l.take n)) := Lib.hid (by unfold encStrs encS; rw [HL.out, List.take_of_length_le (by have := HL.out; omega)])
  have H0 : Hid (encI n = encS n (l.take 0)) := Lib.hid (by unfold encS; simp)
  clear hs
  go_enter Tryz.func104, Tryz.ntmps104
  go_wp2_with fail
  refine (refIntZ_any n _ (by omega) (by omega)).mono ?_
  rintro e w1 ⟨v1, rfl, hown1, hb1⟩
  rw [H0.out] at hown1
  go_wp2_with fail
  go_loopw [3, 4] (fun v j wr => ∃ k : Nat, k ≤ n ∧ j = .int .i64 k ∧ Below w.heap.size w wr ∧ Own wr w.heap.size 5 v (bv (encS n (l.take k)))) (fun _ j _ => n - (intOf j).toNat)
  case atStart => exact ⟨0, Nat.zero_le _, rfl, hb1, hown1⟩
  case round =>
    clear hown1
    obtain ⟨k, hk, rfl, hbw, hown⟩ := hrel
    by_cases hlt : k < n
    · obtain ⟨ad, rfl, hc⟩ := (hr.below hbw).str hlt HL.out
      have hkl : k < l.length := by have := HL.out; omega
      have HX := Lib.hid (HSZ.out _ (List.getElem_mem hkl))
      have HS := Lib.hid (HNX.out k hkl)
      have HN := Lib.hid (HLN.out k)
      generalize l[k]'(by have := HL.out; omega) = x at *
      clear hkl
      go_wp2_with fail
      refine (refBytes1_any x _ (by have := HX.out; omega)).mono ?_
      rintro e w2 ⟨v2, rfl, hown2, hb2⟩
      replace hown := hown.below hb2
      have hbw2 := bstep hbw hb2
      obtain ⟨A2, n2, c2, rfl, hn2, hn2c, hc2, hr2⟩ := hown2.formN
      have HN2 := Lib.hid (show n2 ≤ 65546 by have := hn2.out; have := length_encBm x HX.out; rw [length_bv] at *; omega)
      clear hn2 hown2 hc
      go_wp2_with (at_builtin; refine wpList_app rfl rfl elemBytes rfl hown rfl hr2 (oneCell_bv _) (by rw [length_bv]; have := HN.out; have := HN2.out; omega) hbw2.size ?_; intro v' w' hown3 _ hb3 _)
      rw [← HS.out] at hown3
      exact ⟨⟨k + 1, by omega, by go_num, hbw2.trans hb3, hown3⟩, by simp [intOf]; omega⟩
    · obtain rfl : k = n := by omega
      rw [← HE.out] at hown
      go_wp2
      go_ret
      exact ⟨_, rfl, hown, hbw⟩
end Go.Proofs.YtcapckngikekpaaGreatDoor
namespace Go.Proofs.YtcapckngikekpaaGreatDoor
set_option linter.unusedSimpArgs false
set_option linter.unusedVariables false
open Go.RowKit Exch Merk Ring
/-! Attributes. -/
def atL (a : At) : List Value := [.string a.name, .int .i64 a.kind, .int .i64 a.n, .string a.s]
abbrev atC (a : At) : Array Value := #[.string a.name, .int .i64 a.kind, .int .i64 a.n, .string a.s]
theorem atL_len (a : At) : (atL a).length = 4 := rfl
def atsL (l : List At) : List Value := l.flatMap atL
theorem one_atC (a : At) : (atC a).all (·.oneCell') = true := by simp [atC, Value.oneCell']
theorem aggAt : (Tryz.prog.underlying 100).map isAggDesc = some true := by kernel_rfl
theorem sizeAt : (Tryz.prog.info? 100).map (·.size) = some 4 := by kernel_rfl
theorem zeroAt (W : World) : (zeroValue 100).run Tryz.prog W = .ok (.agg (atC ⟨⟨#[]⟩, 0, 0, ⟨#[]⟩⟩)) W := by kernel_rfl
structure RdA (W : World) (A : Option Addr) (n : Nat) (l : List At) : Prop where
  len : l.length = n
  rd : Rd W A (n * 4) (atsL l)
theorem RdA.below {W W' : World} {A : Option Addr} {n : Nat} {l : List At} (h : RdA W A n l) (hb : Below W.heap.size W W') : RdA W' A n l := ⟨h.len, h.rd.below hb⟩
theorem RdA.elem {W : World} {A : Option Addr} {n : Nat} {l : List At} (h : RdA W A n l) {i : Nat} (hi : i < l.length) : ∃ ad, A = some ad ∧ ∀ j u, (atL l[i])[j]? = some u → W.cell? ((ad.add (i * 4)).add j) = some u :=
  Rd.elem atL_len (by omega) h.rd hi
/-! Events: a row holds an event's numbers, its nonce, and where its vector and its attributes lie. -/
structure EvR where
  e : Ev
  vA : Option Addr
  vn : Nat
  vc : Nat
  aA : Option Addr
  an : Nat
  ac : Nat
def evL (r : EvR) : List Value := [.int .i64 r.e.kind, .int .i64 r.e.commit, .int .i64 r.e.day, .int .i64 r.e.id, .int .i64 r.e.owner, .int .i64 r.e.til, .int .i64 r.e.frm, .slice r.vA r.vn r.vc, .slice r.aA r.an r.ac] ++ bv (dg r.e.nonce)
abbrev evC (r : EvR) : Array Value := (evL r).toArray
abbrev evV (r : EvR) : Value := .agg (evC r)
theorem evL_len (r : EvR) : (evL r).length = 25 := by unfold evL; rw [List.length_append, bv_dg_len]; rfl
theorem evC_size (r : EvR) : (evC r).size = 25 := by rw [evC, List.size_toArray, evL_len]
theorem one_evL (r : EvR) : ∀ u ∈ evL r, u.oneCell' = true := by
  intro u hu
  rcases List.mem_append.1 hu with hu | hu
  · simp only [List.mem_cons, List.not_mem_nil, or_false] at hu
    rcases hu with rfl | rfl | rfl | rfl | rfl | rfl | rfl | rfl | rfl <;> rfl
  · simp only [bv, List.mem_map] at hu
    obtain ⟨b, _, rfl⟩ := hu
    rfl
theorem one_evC (r : EvR) : (evC r).all (·.oneCell') = true := by
  rw [Array.all_eq_true_iff_forall_mem]
  intro u hu
  exact one_evL r u (by simpa [evC] using hu)
theorem aggEv : (Tryz.prog.underlying 27).map isAggDesc = some true := by kernel_rfl
theorem sizeEv : (Tryz.prog.info? 27).map (·.size) = some 25 := by kernel_rfl
/-- What an event's row points at reads; its numbers are numbers. -/
structure EvOk (W : World) (r : EvR) : Prop where
  vlen : r.e.vec.length = r.vn
  vrd : Rd W r.vA r.vn (iv r.e.vec)
  vcap : r.vn ≤ r.vc
  vmax : r.vc ≤ maxLen
  ard : RdA W r.aA r.an r.e.attrs
  acap : r.an ≤ r.ac
  amax : r.ac ≤ maxLen
  non : r.e.nonce < 2 ^ 128
theorem EvOk.below {W W' : World} {r : EvR} (h : EvOk W r) (hb : Below W.heap.size W W') : EvOk W' r := ⟨h.vlen, h.vrd.below hb, h.vcap, h.vmax, h.ard.below hb, h.acap, h.amax, h.non⟩
/-- The numbers of an event are numbers of 64 bits. -/
structure EvWf (e : Ev) : Prop where
  vec : fits64 e.vec
  attrs : ∀ a ∈ e.attrs, (-9223372036854775808 ≤ a.kind ∧ a.kind ≤ 9223372036854775807) ∧ -9223372036854775808 ≤ a.n ∧ a.n ≤ 9223372036854775807
  nums : fits64 [e.kind, e.commit, e.day, e.id, e.owner, e.til, e.frm]
/-- An event is small. -/
structure EvFew (e : Ev) : Prop where
  vec : e.vec.length ≤ 40
  attrs : e.attrs.length ≤ 20
  texts : ∀ a ∈ e.attrs, a.name.size ≤ 200 ∧ a.s.size ≤ 200
section
variable {W : World} {g : Nat} {T : TypeId} {r : EvR}
theorem ev_at (hb : Blk W g T (evC r)) (j : Nat) : W.cell? ⟨g, j, none⟩ = (evL r)[j]? := by rw [hb.cell j, List.getElem?_toArray]
theorem ev_nonce (hb : Blk W g T (evC r)) : ∀ j u, (bv (dg r.e.nonce))[j]? = some u → W.cell? ((⟨g, 9, none⟩ : Addr).add j) = some u := by
  intro j u h
  have := ev_at hb (9 + j)
  rw [show ((⟨g, 9, none⟩ : Addr).add j) = ⟨g, 9 + j, none⟩ by unfold Addr.add; split <;> simp_all, this]
  unfold evL
  rw [List.getElem?_append_right (by simp), show 9 + j - [Value.int .i64 r.e.kind, .int .i64 r.e.commit, .int .i64 r.e.day, .int .i64 r.e.id, .int .i64 r.e.owner, .int .i64 r.e.til, .int .i64 r.e.frm, .slice r.vA r.vn r.vc, .slice r.aA r.an r.ac].length = j by simp, h]
end
/-! Faces. -/
def fcL (f : Fc) : List Value := [.int .i64 f.kind, .int .i64 f.commit, .int .i64 f.day, .int .i64 f.id, .int .i64 f.owner, .int .i64 f.til, .int .i64 f.frm] ++ bv (dg f.blind)
abbrev fcC (f : Fc) : Array Value := (fcL f).toArray
abbrev fcV (f : Fc) : Value := .agg (fcC f)
theorem fcL_len (f : Fc) : (fcL f).length = 23 := by unfold fcL; rw [List.length_append, bv_dg_len]; rfl
theorem fcC_size (f : Fc) : (fcC f).size = 23 := by rw [fcC, List.size_toArray, fcL_len]
theorem one_fcL (f : Fc) : ∀ u ∈ fcL f, u.oneCell' = true := by
  intro u hu
  rcases List.mem_append.1 hu with hu | hu
  · simp only [List.mem_cons, List.not_mem_nil, or_false] at hu
    rcases hu with rfl | rfl | rfl | rfl | rfl | rfl | rfl <;> rfl
  · simp only [bv, List.mem_map] at hu
    obtain ⟨b, _, rfl⟩ := hu
    rfl
theorem one_fcC (f : Fc) : (fcC f).all (·.oneCell') = true := by
  rw [Array.all_eq_true_iff_forall_mem]
  intro u hu
  exact one_fcL f u (by simpa [fcC] using hu)
theorem aggFc : (Tryz.prog.underlying 29).map isAggDesc = some true := by kernel_rfl
theorem sizeFc : (Tryz.prog.info? 29).map (·.size) = some 23 := by kernel_rfl
theorem zeroFc_v (W : World) : (zeroValue 29).run Tryz.prog W = .ok (fcV zeroFc) W := by kernel_rfl
/-! What is sealed of an event. -/
def numsOf (l : List At) : List Int := l.flatMap fun a => [a.kind, a.n]
def textsOf (l : List At) : List ByteArray := l.flatMap fun a => [a.name, a.s]
def contentL (e : Ev) : List ByteArray := [⟨(encInts e.vec).toArray⟩, ⟨(encInts (numsOf e.attrs)).toArray⟩, ⟨(encStrs (textsOf e.attrs)).toArray⟩]
theorem numsOf_len (l : List At) : (numsOf l).length = 2 * l.length := by
  induction l with
  | nil => rfl
  | cons a l ih => unfold numsOf at ih ⊢; rw [List.flatMap_cons, List.length_append, ih]; simp; omega
theorem textsOf_len (l : List At) : (textsOf l).length = 2 * l.length := by
  induction l with
  | nil => rfl
  | cons a l ih => unfold textsOf at ih ⊢; rw [List.flatMap_cons, List.length_append, ih]; simp; omega
end Go.Proofs.YtcapckngikekpaaGreatDoor
namespace Go.Proofs.YtcapckngikekpaaGreatDoor
set_option linter.unusedSimpArgs false
set_option linter.unusedVariables false
open Go.RowKit Exch Merk Go.Shelf
theorem build2_I (x y : Int) (W : World) : (Instr.buildSlice 22 2 #[(0, .int .i64 x), (1, .int .i64 y)]).run Tryz.prog W = .ok (.slice (some ⟨W.heap.size, 0, none⟩) 2 2) (W.alloc (.cells #[.int .i64 x, .int .i64 y] 3)) := by kernel_rfl
section
variable {w : World} {ops : Array Oper} {rest : List Oper} {o o1 o2 : Oper} {a : Act} {Q : Exit → Act → World → Prop}
theorem wpList_newDg (hg1 : o1.guard = none) (hg2 : o2.guard = none) (h1 : o1.op = .alloc 25) {x y : Operand} {n : Nat} (h2 : o2.op = .store 25 x y) (hx : ∀ p, (a.put o1.dst (.pointer p)).eval x = .pointer p)
    (hy : ∀ p, (a.put o1.dst (.pointer p)).eval y = dgV n)
    (h : ∀ w' g, w.heap.size ≤ g → Blk w' g 25 (dgC n) → Below w.heap.size w w' → wpList Tryz.prog ops Q rest ((a.put o1.dst (.pointer (some ⟨g, 0, none⟩))).put o2.dst undef) w') : wpList Tryz.prog ops Q (o1 :: o2 :: rest) a w :=
  wpList_newRow (z := dgC 0) (vs := dgC n) hg1 hg2 h1 h2 (zeroDg w) hx hy (by rw [dgC_size, dgC_size]) (by rw [sizeDg, dgC_size]) (one_dgC n) fun w' g hg h1 h2 _ => h w' g (by omega) h1 h2
theorem wpList_lit2I (hw : Region.wanted o (yielded ops a.tmps) = true) {x y : Operand} {p q : Int} (ho : o.op = .buildSlice 22 2 #[(0, x), (1, y)]) (hx : a.eval x = .int .i64 p) (hy : a.eval y = .int .i64 q)
    (h : ∀ w' g, w.heap.size ≤ g → Rd w' (some ⟨g, 0, none⟩) 2 (iv [p, q]) → Below w.heap.size w w' → wpList Tryz.prog ops Q rest (a.put o.dst (.slice (some ⟨g, 0, none⟩) 2 2)) w') : wpList Tryz.prog ops Q (o :: rest) a w := by
  refine wpList_want hw fun K hK => ?_
  have h2 := h _ _ (Nat.le_refl _) (blk_rd (xs := iv [p, q]) (Blk.new w 3 _)) ((Below.refl _ _).alloc (Nat.le_refl _) _)
  unfold Oper.wp execOp
  simp only [ho, List.map_toArray, List.map_cons, List.map_nil, hx, hy, build2_I, Sem.run_bind, Result.andThen_ok, Sem.run_pure]
  exact hK _ _ h2
/-- Two digests are held against each other. -/
theorem wpList_eqDg (hw : Region.wanted o (yielded ops a.tmps) = true) {x y : Operand} {p q : Nat} {u : TypeId} (ho : o.op = .binOp .eql 25 x y u) (hx : a.eval x = dgV p) (hy : a.eval y = dgV q) (hp : p < 2 ^ 128) (hq : q < 2 ^ 128)
    (hg : ∀ W, (eqGuard .eql 25 x y (dgV p) (dgV q)).run Tryz.prog W = .ok () W) (h : wpList Tryz.prog ops Q rest (a.put o.dst (.bool (decide (p = q)))) w) : wpList Tryz.prog ops Q (o :: rest) a w :=
  wpList_eqlW hw ho hx hy hg (eql_Dg hp hq w) h
end
end Go.Proofs.YtcapckngikekpaaGreatDoor
namespace Go.Proofs.YtcapckngikekpaaGreatDoor
set_option linter.unusedSimpArgs false
set_option linter.unusedVariables false
open Go.RowKit Exch Merk Ring
section
variable {w w' : World} {B : Nat} {e : TypeId} {size : Nat} {v : Value} {n : Nat} {xs : List Value}
theorem keepT (hv : w.ownsRow B e size v n xs) (hg : w.grownBy w' v.ownBlock) {g : Nat} {cs : Array Value} {T : TypeId} {fr : Nat × Nat} (h : w.heap[g]? = some (.cells cs T fr)) (hT : T ≠ e) : w'.heap[g]? = some (.cells cs T fr) := by
  have hlt : g < w.heap.size := (Array.getElem?_eq_some_iff.1 h).1
  rw [hg.block g hlt ?_]
  · exact h
  · intro he
    rcases hv.2 with ⟨rfl, _⟩ | ⟨g', cap, cur, rfl, _, hg', _⟩
    · simp [Value.ownBlock] at he
    · simp only [Value.ownBlock, Option.some.injEq] at he
      subst he
      rw [h] at hg'
      injection hg' with hg'
      injection hg' with _ h2 _
      exact hT h2
theorem keepBlk (hv : w.ownsRow B e size v n xs) (hg : w.grownBy w' v.ownBlock) {g : Nat} {cs : Array Value} {T : TypeId} (h : Blk w g T cs) (hT : T ≠ e) : Blk w' g T cs := keepT hv hg h hT
theorem keepOwn (hv : w.ownsRow B e size v n xs) (hg : w.grownBy w' v.ownBlock) {B2 : Nat} {T : TypeId} {size2 : Nat} {u : Value} {n2 : Nat} {ys : List Value} (h : w.ownsRow B2 T size2 u n2 ys) (hT : T ≠ e) : w'.ownsRow B2 T size2 u n2 ys := by
  refine ⟨h.1, ?_⟩
  rcases h.2 with h2 | ⟨g, cap, cur, hu, hb, hh, r⟩
  · exact .inl h2
  · exact .inr ⟨g, cap, cur, hu, hb, keepT hv hg hh hT, r⟩
end
theorem elemInts : ElemOk Tryz.prog 22 3 := by
  obtain ⟨i, h1, h2, h3, h4⟩ := info_parts (show (Tryz.prog.info? 3).map (fun i => (i.zero, i.size, i.bytes)) = some (some (.int .i64 0), 1, 8) by kernel_rfl)
  exact ⟨by kernel_rfl, i, .int .i64 0, h1, h2, h3, by omega, rfl⟩
theorem yields_load1Q {P : Program} {ops : Array Oper} {S : World → Prop} {o : Oper} {a : Act} {t : TypeId} {x : Operand} {p : Addr} {v : Value} (ho : o.op = .load t x) (hg : o.guard = none) (ha : a.eval x = .pointer (some p))
    (hu : (P.underlying t).map isAggDesc = some false) (hc : ∀ W, S W → W.cell? p = some v) : YieldsIf P ops S o v a := by
  refine .inl ⟨by simp [Region.wanted, hg], fun w hS => ?_⟩
  unfold execOp
  simp only [ho, ha, Instr.loadAt, Instr.sureAddr, Sem.run_bind, Sem.run_pure, Result.andThen_ok, run_loadVar_one w p t v hu (hc w hS)]
theorem wp_lit2Ib {w : World} {o : Oper} {a : Act} {K : Act → World → Prop} {Q : Exit → Act → World → Prop} {x y : Operand} {p q : Int} (ho : o.op = .buildSlice 22 2 #[(0, x), (1, y)]) (hx : a.eval x = .int .i64 p) (hy : a.eval y = .int .i64 q)
    (h : ∀ w' g, Blk w' g 3 #[.int .i64 p, .int .i64 q] → Below w.heap.size w w' → K (a.put o.dst (.slice (some ⟨g, 0, none⟩) 2 2)) w') : o.wp Tryz.prog a w K Q := by
  have h2 := h _ _ (Blk.new w 3 #[.int .i64 p, .int .i64 q]) ((Below.refl _ _).alloc (Nat.le_refl _) _)
  unfold Oper.wp execOp
  simp only [ho, List.map_toArray, List.map_cons, List.map_nil, hx, hy, build2_I, Sem.run_bind, Result.andThen_ok, Sem.run_pure]
  exact h2
theorem wp_lit2Sb {w : World} {o : Oper} {a : Act} {K : Act → World → Prop} {Q : Exit → Act → World → Prop} {x y : Operand} {s t : ByteArray} (ho : o.op = .buildSlice 103 2 #[(0, x), (1, y)]) (hx : a.eval x = .string s) (hy : a.eval y = .string t)
    (h : ∀ w' g, Blk w' g 9 #[.string s, .string t] → Below w.heap.size w w' → K (a.put o.dst (.slice (some ⟨g, 0, none⟩) 2 2)) w') : o.wp Tryz.prog a w K Q := by
  have h2 := h _ _ (Blk.new w 9 #[.string s, .string t]) ((Below.refl _ _).alloc (Nat.le_refl _) _)
  unfold Oper.wp execOp
  simp only [ho, List.map_toArray, List.map_cons, List.map_nil, hx, hy, build2_S, Sem.run_bind, Result.andThen_ok, Sem.run_pure]
  exact h2
theorem build3_S (s t u : ByteArray) (W : World) : (Instr.buildSlice 103 3 #[(0, .string s), (1, .string t), (2, .string u)]).run Tryz.prog W = .ok (.slice (some ⟨W.heap.size, 0, none⟩) 3 3) (W.alloc (.cells #[.string s, .string t, .string u] 9)) := by kernel_rfl
theorem wp_lit3So {w : World} {o : Oper} {a : Act} {K : Act → World → Prop} {Q : Exit → Act → World → Prop} {x y z : Operand} {s t u : ByteArray} (ho : o.op = .buildSlice 103 3 #[(0, x), (1, y), (2, z)]) (hx : a.eval x = .string s) (hy : a.eval y = .string t) (hz : a.eval z = .string u)
    (h : ∀ w' g, Own w' w.heap.size 9 (.slice (some ⟨g, 0, none⟩) 3 3) (sv [s, t, u]) → Below w.heap.size w w' → K (a.put o.dst (.slice (some ⟨g, 0, none⟩) 3 3)) w') : o.wp Tryz.prog a w K Q := by
  have h2 := h (w.alloc (.cells #[.string s, .string t, .string u] 9)) w.heap.size ⟨rfl, .inr ⟨w.heap.size, 3, #[.string s, .string t, .string u], rfl, Nat.le_refl _, heap_alloc_new w _, Nat.le_refl _, by simp [maxLen], rfl, rfl⟩⟩ ((Below.refl _ _).alloc (Nat.le_refl _) _)
  unfold Oper.wp execOp
  simp only [ho, List.map_toArray, List.map_cons, List.map_nil, hx, hy, hz, build3_S, Sem.run_bind, Result.andThen_ok, Sem.run_pure]
  exact h2
theorem rd_2I {w : World} {g : Nat} {p q : Int} (h : Blk w g 3 #[.int .i64 p, .int .i64 q]) : Rd w (some ⟨g, 0, none⟩) 2 (iv [p, q]) := blk_rd (xs := iv [p, q]) h
theorem rd_2S {w : World} {g : Nat} {s t : ByteArray} (h : Blk w g 9 #[.string s, .string t]) : Rd w (some ⟨g, 0, none⟩) 2 (sv [s, t]) := blk_rd (xs := sv [s, t]) h
theorem nums_next (l : List At) (i : Nat) (h : i < l.length) : numsOf (l.take (i + 1)) = numsOf (l.take i) ++ [l[i].kind, l[i].n] := by
  unfold numsOf; rw [List.take_succ_eq_append_getElem h, List.flatMap_append]; rfl
theorem texts_next (l : List At) (i : Nat) (h : i < l.length) : textsOf (l.take (i + 1)) = textsOf (l.take i) ++ [l[i].name, l[i].s] := by
  unfold textsOf; rw [List.take_succ_eq_append_getElem h, List.flatMap_append]; rfl
theorem evBox (w : World) (r : EvR) : ∃ wa : World, wa = w.alloc (.cells (evC r) 27) ∧ Below w.heap.size w wa ∧ Blk wa w.heap.size 27 (evC r) := ⟨_, rfl, (Below.refl w.heap.size w).alloc (Nat.le_refl _) _, Blk.new _ _ _⟩
def SsIs (l : List ByteArray) (w : World) (e : Ending) (w' : World) : Prop := ∃ v, e = .returned v ∧ Own w' w.heap.size 9 v (sv l) ∧ Below w.heap.size w w'
set_option maxRecDepth 100000 in
set_option maxHeartbeats 4000000 in
theorem content_any (r : EvR) (w : World) (h : EvOk w r) (hw : EvWf r.e) (hf : EvFew r.e) :
    Calls Tryz.prog 51 #[evV r] w (SsIs (contentL r.e) w) := by
  obtain ⟨wa, hwa, hb0, q1⟩ := evBox w r
  have HWA := Lib.hid hwa
  clear hwa
  obtain ⟨⟨k0, k1, k2, k3, k4, k5, k6, vec, attrs, nonce⟩, vA, vn, vc, aA, an, ac⟩ := r
  obtain ⟨hvl, hvr, hvc, hvm, har, hac, ham, hno⟩ := h
  obtain ⟨wv, wat, -⟩ := hw
  obtain ⟨fv, fa, ft⟩ := hf
  dsimp only at hvl hvr hvc hvm har hac ham hno wv wat fv fa ft ⊢
  have hal := har.len
  have hcells := ev_at q1
  have c7 : wa.cell? ⟨w.heap.size, 7, none⟩ = some (.slice vA vn vc) := hcells 7
  have c8 : wa.cell? ⟨w.heap.size, 8, none⟩ = some (.slice aA an ac) := hcells 8
  have HE := Lib.hid (fun W (h : Below w.heap.size w W) => encode_any vA vn vc vec W (hvr.below h) (by omega) wv)
  have HNF : Hid (fits64 (numsOf attrs)) := Lib.hid (fun x hx => by
    obtain ⟨a, ha, hx⟩ := List.mem_flatMap.1 hx
    have := wat a ha
    simp only [List.mem_cons, List.not_mem_nil, or_false] at hx
    rcases hx with rfl | rfl
    · exact this.1
    · exact this.2)
  have HTF : Hid (∀ s ∈ textsOf attrs, s.size ≤ 65536) := Lib.hid (fun x hx => by
    obtain ⟨a, ha, hx⟩ := List.mem_flatMap.1 hx
    have := ft a ha
    simp only [List.mem_cons, List.not_mem_nil, or_false] at hx
    rcases hx with rfl | rfl <;> omega)
  have hnl := numsOf_len attrs
  have htl := textsOf_len attrs
  have HIN := Lib.hid (fun A n c W (hr : Rd W A n (iv (numsOf attrs))) (hn : n ≤ 1000) => wireInts_any A n c (numsOf attrs) W hr hn HNF.out)
  have HST := Lib.hid (fun A n c W (hr : Rd W A n (sv (textsOf attrs))) (hn : n ≤ 1000) => wireStrs_any A n c (textsOf attrs) W hr hn HTF.out)
  have HLN : Hid (∀ i, (numsOf (attrs.take i)).length ≤ 40 ∧ (textsOf (attrs.take i)).length ≤ 40) := Lib.hid (fun i => by rw [numsOf_len, textsOf_len, List.length_take]; omega)
  have HNX := Lib.hid (nums_next attrs)
  have HTX := Lib.hid (texts_next attrs)
  have H0 : Hid (numsOf (attrs.take 0) = [] ∧ textsOf (attrs.take 0) = []) := Lib.hid ⟨rfl, rfl⟩
  have HEND : Hid (numsOf (attrs.take an) = numsOf attrs ∧ textsOf (attrs.take an) = textsOf attrs) := Lib.hid (by rw [List.take_of_length_le (by omega)]; exact ⟨rfl, rfl⟩)
  have HAL := Lib.hid hal
  have HAR := Lib.hid (fun W (h : Below w.heap.size w W) => har.below h)
  have han : an ≤ 20 := by omega
  unfold contentL
  dsimp only
  clear hvr har hvl hal wv wat fv fa ft hnl htl hno hcells
  generalize encInts vec = EV at *
  generalize encInts (numsOf attrs) = EN at *
  generalize encStrs (textsOf attrs) = ET at *
  unfold SsIs
  go_enter Tryz.func51, Tryz.ntmps51
  go_upto_region 1 with fail
  change Code.wp _ _ _ _ (w.alloc (.cells (evC ⟨⟨k0, k1, k2, k3, k4, k5, k6, vec, attrs, nonce⟩, vA, vn, vc, aA, an, ac⟩) 27))
  rw [← HWA.out]
  go_wp2_with fail
  go_loopw [3, 4, 10] (fun v3 v4 v10 wr => ∃ i : Nat, v10 = .int .i64 (i : Int) ∧ i ≤ an ∧ Own wr wa.heap.size 3 v3 (iv (numsOf (attrs.take i))) ∧ Own wr wa.heap.size 9 v4 (sv (textsOf (attrs.take i))) ∧ Below wa.heap.size wa wr) (fun _ _ v10 _ => an - (intOf v10).toNat)
  case atStart => exact ⟨0, rfl, Nat.zero_le _, by rw [H0.out.1]; exact Own.nil _ _ _, by rw [H0.out.2]; exact Own.nil _ _ _, Below.refl _ _⟩
  case round =>
    obtain ⟨i, rfl, hi, o3, o4, hbl⟩ := hrel
    by_cases hin : i < an
    · have dj : decide ((i : Int) < (an : Int)) = true := by rw [decide_eq_true_eq]; omega
      have hix : 0 ≤ (i : Int) ∧ (i : Int) < (an : Int) := by omega
      have hil : i < attrs.length := by rw [HAL.out]; exact hin
      have HNI := Lib.hid (HNX.out i hil)
      have HTI := Lib.hid (HTX.out i hil)
      obtain ⟨ad, hA, hce⟩ := (HAR.out _ (bstep hb0 hbl)).elem hil
      have hl40 := HLN.out i
      generalize attrs[i] = a at *
      subst hA
      clear hil
      go_upto_region 6 with (first
        | ((with_reducible show wpList _ _ _ (⟨some 13, _, _, _, _, _⟩ :: _) _ _); refine wpList_loadK (us := atL a) rfl rfl rfl aggAt (by rw [sizeAt, atL_len]) hce ?_)
        | ((with_reducible show wpList _ _ _ (⟨some 6, _, _, _, _, _⟩ :: _) _ _); refine wpList_newRow (z := atC ⟨⟨#[]⟩, 0, 0, ⟨#[]⟩⟩) (vs := atC a) rfl rfl rfl rfl (zeroAt _) (fun _ => rfl) (fun _ => rfl) rfl (by rw [sizeAt]; rfl) (one_atC _) ?_; intro w6 g6 hg6 b6 hb6 lt6; clear hg6 lt6))
      replace o3 := o3.below hb6
      replace o4 := o4.below hb6
      have hB : Below wa.heap.size wa w6.drew := (bstep hbl hb6).drew
      have b6' : Blk w6.drew g6 100 (atC a) := b6.below (Below.refl _ _).drew
      replace o3 := Own.below o3 (show Below w6.heap.size w6 w6.drew from (Below.refl _ _).drew)
      replace o4 := Own.below o4 (show Below w6.heap.size w6 w6.drew from (Below.refl _ _).drew)
      clear b6 hce hbl hb6
      refine wp_region_TS (S := (fun W => Below wa.heap.size wa W ∧ Blk W g6 100 (atC a))) 15 (by kernel_rfl) ?_
      refine WpT.tk 0 (⟨hB, b6'⟩) ?_
      try simp only [nrm]
      refine WpT.tk 1 (⟨hB, b6'⟩) ?_
      try simp only [nrm]
      refine WpT.tl 2 rfl (yields_load1Q rfl rfl rfl (by kernel_rfl) (fun W h => by have := h.2.cell 1; simpa using this)) (⟨hB, b6'⟩) ?_
      try simp only [nrm]
      refine WpT.tk 3 (⟨hB, b6'⟩) ?_
      try simp only [nrm]
      refine WpT.tl 4 rfl (yields_load1Q rfl rfl rfl (by kernel_rfl) (fun W h => by have := h.2.cell 2; simpa using this)) (⟨hB, b6'⟩) ?_
      try simp only [nrm]
      refine WpT.tk 7 (⟨hB, b6'⟩) ?_
      try simp only [nrm]
      refine WpT.tk 8 (⟨hB, b6'⟩) ?_
      try simp only [nrm]
      refine WpT.tl 9 rfl (yields_load1Q rfl rfl rfl (by kernel_rfl) (fun W h => by have := h.2.cell 0; simpa using this)) (⟨hB, b6'⟩) ?_
      try simp only [nrm]
      refine WpT.tk 10 (⟨hB, b6'⟩) ?_
      try simp only [nrm]
      refine WpT.tl 11 rfl (yields_load1Q rfl rfl rfl (by kernel_rfl) (fun W h => by have := h.2.cell 3; simpa using this)) (⟨hB, b6'⟩) ?_
      try simp only [nrm]
      refine WpT.fork (i := 5) (j := 12) rfl rfl (by kernel_rfl) (fun K hK => ?_) (fun K hK => ?_)
      · refine wp_lit2Ib (p := a.kind) (q := a.n) rfl (by rfl) (by rfl) ?_; intro w5 g5 q5 hb5; replace b6' := b6'.below hb5; replace o3 := Own.below o3 hb5; replace o4 := Own.below o4 hb5; (try replace q12 := q12.below hb5); replace hB := bstep hB hb5
        refine hK _ _ (⟨hB, b6'⟩) ?_; clear hK K; try simp only [nrm]
        refine WpT.fork (i := 6) (j := 12) rfl rfl (by kernel_rfl) (fun K hK => ?_) (fun K hK => ?_)
        · refine wp_app rfl elemInts (by rfl) o3 (by rfl) (rd_2I q5) (by intro u hu; simp [iv] at hu; rcases hu with rfl | rfl <;> rfl) (by rw [length_iv]; omega) hB.size ?_; intro v3' wx o3' hgx hbx _; replace b6' := keepBlk o3 hgx b6' (by decide); have o4 : Own wx wa.heap.size 9 u4 (sv (textsOf (attrs.take i))) := keepOwn o3 hgx o4 (by decide); (try replace q12 := keepBlk o3 hgx q12 (by decide)); replace hB := hB.trans hbx
          refine hK _ _ (⟨hB, b6'⟩) ?_; clear hK K; try simp only [nrm]
          refine WpT.on 12 rfl (fun K hK => ?_)
          refine wp_lit2Sb (s := a.name) (t := a.s) rfl (by rfl) (by rfl) ?_; intro w7 g7 q12 hb7; replace b6' := b6'.below hb7; (try replace o3 := Own.below o3 hb7); (try replace o3' := Own.below o3' hb7); replace o4 := Own.below o4 hb7; (try replace q5 := q5.below hb7); replace hB := bstep hB hb7
          refine hK _ _ (⟨hB, b6'⟩) ?_; clear hK K; try simp only [nrm]
          refine WpT.on 13 rfl (fun K hK => ?_)
          refine wp_app rfl elemStr (by rfl) o4 (by rfl) (rd_2S q12) (by intro u hu; simp [sv] at hu; rcases hu with rfl | rfl <;> rfl) (by rw [length_sv]; omega) hB.size ?_; intro v4' wy o4' hgy hby _; replace b6' := keepBlk o4 hgy b6' (by decide); have o3' : Own wy wa.heap.size 3 v3' (iv (numsOf (attrs.take i)) ++ iv [a.kind, a.n]) := keepOwn o4 hgy o3' (by decide); replace hB := hB.trans hby
          refine hK _ _ (⟨hB, b6'⟩) ?_; clear hK K; try simp only [nrm]
          refine WpT.on 14 rfl (fun K hK => ?_)
          go_simp; (try go_bits)
          refine hK _ _ (⟨hB, b6'⟩) ?_; clear hK K; try simp only [nrm]
          refine WpT.ta 15 rfl (fun K hK => ?_)
          go_simp; (try go_bits)
          refine hK _ _ ?_; clear hK K; try simp only [nrm]
          refine WpT.done (by kernel_rfl) ?_ _
          go_wp2_with fail; exact ⟨⟨i + 1, by go_num, by omega, by rw [HNI.out]; unfold iv at o3' ⊢; rw [List.map_append]; exact o3', by rw [HTI.out]; unfold sv at o4' ⊢; rw [List.map_append]; exact o4', hB⟩, by simp [intOf]; omega⟩
        · refine wp_lit2Sb (s := a.name) (t := a.s) rfl (by rfl) (by rfl) ?_; intro w7 g7 q12 hb7; replace b6' := b6'.below hb7; (try replace o3 := Own.below o3 hb7); (try replace o3' := Own.below o3' hb7); replace o4 := Own.below o4 hb7; (try replace q5 := q5.below hb7); replace hB := bstep hB hb7
          refine hK _ _ (⟨hB, b6'⟩) ?_; clear hK K; try simp only [nrm]
          refine WpT.on 6 rfl (fun K hK => ?_)
          refine wp_app rfl elemInts (by rfl) o3 (by rfl) (rd_2I q5) (by intro u hu; simp [iv] at hu; rcases hu with rfl | rfl <;> rfl) (by rw [length_iv]; omega) hB.size ?_; intro v3' wx o3' hgx hbx _; replace b6' := keepBlk o3 hgx b6' (by decide); have o4 : Own wx wa.heap.size 9 u4 (sv (textsOf (attrs.take i))) := keepOwn o3 hgx o4 (by decide); (try replace q12 := keepBlk o3 hgx q12 (by decide)); replace hB := hB.trans hbx
          refine hK _ _ (⟨hB, b6'⟩) ?_; clear hK K; try simp only [nrm]
          refine WpT.on 13 rfl (fun K hK => ?_)
          refine wp_app rfl elemStr (by rfl) o4 (by rfl) (rd_2S q12) (by intro u hu; simp [sv] at hu; rcases hu with rfl | rfl <;> rfl) (by rw [length_sv]; omega) hB.size ?_; intro v4' wy o4' hgy hby _; replace b6' := keepBlk o4 hgy b6' (by decide); have o3' : Own wy wa.heap.size 3 v3' (iv (numsOf (attrs.take i)) ++ iv [a.kind, a.n]) := keepOwn o4 hgy o3' (by decide); replace hB := hB.trans hby
          refine hK _ _ (⟨hB, b6'⟩) ?_; clear hK K; try simp only [nrm]
          refine WpT.on 14 rfl (fun K hK => ?_)
          go_simp; (try go_bits)
          refine hK _ _ (⟨hB, b6'⟩) ?_; clear hK K; try simp only [nrm]
          refine WpT.ta 15 rfl (fun K hK => ?_)
          go_simp; (try go_bits)
          refine hK _ _ ?_; clear hK K; try simp only [nrm]
          refine WpT.done (by kernel_rfl) ?_ _
          go_wp2_with fail; exact ⟨⟨i + 1, by go_num, by omega, by rw [HNI.out]; unfold iv at o3' ⊢; rw [List.map_append]; exact o3', by rw [HTI.out]; unfold sv at o4' ⊢; rw [List.map_append]; exact o4', hB⟩, by simp [intOf]; omega⟩
      · refine wp_lit2Sb (s := a.name) (t := a.s) rfl (by rfl) (by rfl) ?_; intro w7 g7 q12 hb7; replace b6' := b6'.below hb7; (try replace o3 := Own.below o3 hb7); (try replace o3' := Own.below o3' hb7); replace o4 := Own.below o4 hb7; (try replace q5 := q5.below hb7); replace hB := bstep hB hb7
        refine hK _ _ (⟨hB, b6'⟩) ?_; clear hK K; try simp only [nrm]
        refine WpT.on 5 rfl (fun K hK => ?_)
        refine wp_lit2Ib (p := a.kind) (q := a.n) rfl (by rfl) (by rfl) ?_; intro w5 g5 q5 hb5; replace b6' := b6'.below hb5; replace o3 := Own.below o3 hb5; replace o4 := Own.below o4 hb5; (try replace q12 := q12.below hb5); replace hB := bstep hB hb5
        refine hK _ _ (⟨hB, b6'⟩) ?_; clear hK K; try simp only [nrm]
        refine WpT.on 6 rfl (fun K hK => ?_)
        refine wp_app rfl elemInts (by rfl) o3 (by rfl) (rd_2I q5) (by intro u hu; simp [iv] at hu; rcases hu with rfl | rfl <;> rfl) (by rw [length_iv]; omega) hB.size ?_; intro v3' wx o3' hgx hbx _; replace b6' := keepBlk o3 hgx b6' (by decide); have o4 : Own wx wa.heap.size 9 u4 (sv (textsOf (attrs.take i))) := keepOwn o3 hgx o4 (by decide); (try replace q12 := keepBlk o3 hgx q12 (by decide)); replace hB := hB.trans hbx
        refine hK _ _ (⟨hB, b6'⟩) ?_; clear hK K; try simp only [nrm]
        refine WpT.on 13 rfl (fun K hK => ?_)
        refine wp_app rfl elemStr (by rfl) o4 (by rfl) (rd_2S q12) (by intro u hu; simp [sv] at hu; rcases hu with rfl | rfl <;> rfl) (by rw [length_sv]; omega) hB.size ?_; intro v4' wy o4' hgy hby _; replace b6' := keepBlk o4 hgy b6' (by decide); have o3' : Own wy wa.heap.size 3 v3' (iv (numsOf (attrs.take i)) ++ iv [a.kind, a.n]) := keepOwn o4 hgy o3' (by decide); replace hB := hB.trans hby
        refine hK _ _ (⟨hB, b6'⟩) ?_; clear hK K; try simp only [nrm]
        refine WpT.on 14 rfl (fun K hK => ?_)
        go_simp; (try go_bits)
        refine hK _ _ (⟨hB, b6'⟩) ?_; clear hK K; try simp only [nrm]
        refine WpT.ta 15 rfl (fun K hK => ?_)
        go_simp; (try go_bits)
        refine hK _ _ ?_; clear hK K; try simp only [nrm]
        refine WpT.done (by kernel_rfl) ?_ _
        go_wp2_with fail; exact ⟨⟨i + 1, by go_num, by omega, by rw [HNI.out]; unfold iv at o3' ⊢; rw [List.map_append]; exact o3', by rw [HTI.out]; unfold sv at o4' ⊢; rw [List.map_append]; exact o4', hB⟩, by simp [intOf]; omega⟩
    · have dj : decide ((i : Int) < (an : Int)) = false := by rw [decide_eq_false_iff_not]; omega
      obtain rfl : an = i := by omega
      rw [HEND.out.1] at o3
      rw [HEND.out.2] at o4
      obtain ⟨A3, n3, c3, rfl, hn3, -, -, r3⟩ := o3.formN
      obtain ⟨A4, n4, c4, rfl, hn4, -, -, r4⟩ := o4.formN
      have hn3' : n3 ≤ 1000 := by have := hn3.out; rw [length_iv] at this; have := HLN.out an; rw [HEND.out.1] at this; omega
      have hn4' : n4 ≤ 1000 := by have := hn4.out; rw [length_sv] at this; have := HLN.out an; rw [HEND.out.2] at this; omega
      clear o3 o4 hn3 hn4
      have c7' : wr.cell? ⟨w.heap.size, 7, none⟩ = some (.slice vA vn vc) := cell_later hbl c7
      have HR3 := Lib.hid (fun W (h : Below wr.heap.size wr W) => HIN.out A3 n3 c3 W (r3.below h) hn3')
      have HR4 := Lib.hid (fun W (h : Below wr.heap.size wr W) => HST.out A4 n4 c4 W (r4.below h) hn4')
      replace hb0 := bstep hb0 hbl
      clear c7 c8 hbl r3 r4 q1
      have hS : Below wr.heap.size wr wr.drew := (Below.refl _ _).drew
      go_upto_region 8 with fail
      refine wp_region_T 11 (by kernel_rfl) ?_
      refine WpT.tk 0 (hS) ?_
      try simp only [nrm]
      refine WpT.tl 1 rfl (yields_load rfl rfl rfl (by kernel_rfl) c7') (hS) ?_
      try simp only [nrm]
      refine WpT.tk 4 (hS) ?_
      try simp only [nrm]
      refine WpT.tk 7 (hS) ?_
      try simp only [nrm]
      refine WpT.on 2 rfl (fun K hK => ?_)
      go_simp; refine (HE.out _ (bstep hb0 hS)).mono ?_; rintro e w2 ⟨v2, rfl, o2, hb2⟩; obtain ⟨A2, n2, c2, rfl, -, -, -, r2⟩ := o2.formN; clear o2; replace hS := bstep hS hb2
      refine hK _ _ (hS) ?_; clear hK K; try simp only [nrm]
      refine WpT.fork (i := 3) (j := 5) rfl rfl (by kernel_rfl) (fun K hK => ?_) (fun K hK => ?_)
      · refine wp_bts rfl bytesTy (by kernel_rfl) (by rfl) r2 ?_
        refine hK _ _ (hS) ?_; clear hK K; try simp only [nrm]
        refine WpT.on 5 rfl (fun K hK => ?_)
        go_simp; refine (HR3.out _ hS).mono ?_; rintro e w5 ⟨v5, rfl, o5, hb5⟩; obtain ⟨A5, n5, c5, rfl, -, -, -, r5⟩ := o5.formN; clear o5; (try replace r2 := r2.below hb5); replace hS := bstep hS hb5
        refine hK _ _ (hS) ?_; clear hK K; try simp only [nrm]
        refine WpT.fork (i := 6) (j := 8) rfl rfl (by kernel_rfl) (fun K hK => ?_) (fun K hK => ?_)
        · refine wp_bts rfl bytesTy (by kernel_rfl) (by rfl) r5 ?_
          refine hK _ _ (hS) ?_; clear hK K; try simp only [nrm]
          refine WpT.on 8 rfl (fun K hK => ?_)
          go_simp; refine (HR4.out _ hS).mono ?_; rintro e w8 ⟨v8, rfl, o8, hb8⟩; obtain ⟨A8, n8, c8, rfl, -, -, -, r8⟩ := o8.formN; clear o8; (try replace r2 := r2.below hb8); (try replace r5 := r5.below hb8); replace hS := bstep hS hb8
          refine hK _ _ (hS) ?_; clear hK K; try simp only [nrm]
          refine WpT.on 9 rfl (fun K hK => ?_)
          refine wp_bts rfl bytesTy (by kernel_rfl) (by rfl) r8 ?_
          refine hK _ _ (hS) ?_; clear hK K; try simp only [nrm]
          refine WpT.on 10 rfl (fun K hK => ?_)
          refine wp_lit3So rfl (by rfl) (by rfl) (by rfl) ?_; intro w9 g9 o9 hb9; have o9' := Own.lower o9 hS.size; replace hS := bstep hS hb9
          refine hK _ _ (hS) ?_; clear hK K; try simp only [nrm]
          refine WpT.ta 11 rfl (fun K hK => ?_)
          go_simp; (try go_bits)
          refine hK _ _ ?_; clear hK K; try simp only [nrm]
          refine WpT.done (by kernel_rfl) ?_ _
          go_wp2_with fail; go_ret; exact ⟨_, rfl, Own.lower o9' hb0.size, bstep hb0 hS⟩
        · go_simp; refine (HR4.out _ hS).mono ?_; rintro e w8 ⟨v8, rfl, o8, hb8⟩; obtain ⟨A8, n8, c8, rfl, -, -, -, r8⟩ := o8.formN; clear o8; (try replace r2 := r2.below hb8); (try replace r5 := r5.below hb8); replace hS := bstep hS hb8
          refine hK _ _ (hS) ?_; clear hK K; try simp only [nrm]
          refine WpT.fork (i := 6) (j := 9) rfl rfl (by kernel_rfl) (fun K hK => ?_) (fun K hK => ?_)
          · refine wp_bts rfl bytesTy (by kernel_rfl) (by rfl) r5 ?_
            refine hK _ _ (hS) ?_; clear hK K; try simp only [nrm]
            refine WpT.on 9 rfl (fun K hK => ?_)
            refine wp_bts rfl bytesTy (by kernel_rfl) (by rfl) r8 ?_
            refine hK _ _ (hS) ?_; clear hK K; try simp only [nrm]
            refine WpT.on 10 rfl (fun K hK => ?_)
            refine wp_lit3So rfl (by rfl) (by rfl) (by rfl) ?_; intro w9 g9 o9 hb9; have o9' := Own.lower o9 hS.size; replace hS := bstep hS hb9
            refine hK _ _ (hS) ?_; clear hK K; try simp only [nrm]
            refine WpT.ta 11 rfl (fun K hK => ?_)
            go_simp; (try go_bits)
            refine hK _ _ ?_; clear hK K; try simp only [nrm]
            refine WpT.done (by kernel_rfl) ?_ _
            go_wp2_with fail; go_ret; exact ⟨_, rfl, Own.lower o9' hb0.size, bstep hb0 hS⟩
          · refine wp_bts rfl bytesTy (by kernel_rfl) (by rfl) r8 ?_
            refine hK _ _ (hS) ?_; clear hK K; try simp only [nrm]
            refine WpT.on 6 rfl (fun K hK => ?_)
            refine wp_bts rfl bytesTy (by kernel_rfl) (by rfl) r5 ?_
            refine hK _ _ (hS) ?_; clear hK K; try simp only [nrm]
            refine WpT.on 10 rfl (fun K hK => ?_)
            refine wp_lit3So rfl (by rfl) (by rfl) (by rfl) ?_; intro w9 g9 o9 hb9; have o9' := Own.lower o9 hS.size; replace hS := bstep hS hb9
            refine hK _ _ (hS) ?_; clear hK K; try simp only [nrm]
            refine WpT.ta 11 rfl (fun K hK => ?_)
            go_simp; (try go_bits)
            refine hK _ _ ?_; clear hK K; try simp only [nrm]
            refine WpT.done (by kernel_rfl) ?_ _
            go_wp2_with fail; go_ret; exact ⟨_, rfl, Own.lower o9' hb0.size, bstep hb0 hS⟩
      · go_simp; refine (HR3.out _ hS).mono ?_; rintro e w5 ⟨v5, rfl, o5, hb5⟩; obtain ⟨A5, n5, c5, rfl, -, -, -, r5⟩ := o5.formN; clear o5; (try replace r2 := r2.below hb5); replace hS := bstep hS hb5
        refine hK _ _ (hS) ?_; clear hK K; try simp only [nrm]
        refine WpT.fork3 (i := 3) (j := 6) (k := 8) rfl rfl rfl (by kernel_rfl) (fun K hK => ?_) (fun K hK => ?_) (fun K hK => ?_)
        · refine wp_bts rfl bytesTy (by kernel_rfl) (by rfl) r2 ?_
          refine hK _ _ (hS) ?_; clear hK K; try simp only [nrm]
          refine WpT.fork (i := 6) (j := 8) rfl rfl (by kernel_rfl) (fun K hK => ?_) (fun K hK => ?_)
          · refine wp_bts rfl bytesTy (by kernel_rfl) (by rfl) r5 ?_
            refine hK _ _ (hS) ?_; clear hK K; try simp only [nrm]
            refine WpT.on 8 rfl (fun K hK => ?_)
            go_simp; refine (HR4.out _ hS).mono ?_; rintro e w8 ⟨v8, rfl, o8, hb8⟩; obtain ⟨A8, n8, c8, rfl, -, -, -, r8⟩ := o8.formN; clear o8; (try replace r2 := r2.below hb8); (try replace r5 := r5.below hb8); replace hS := bstep hS hb8
            refine hK _ _ (hS) ?_; clear hK K; try simp only [nrm]
            refine WpT.on 9 rfl (fun K hK => ?_)
            refine wp_bts rfl bytesTy (by kernel_rfl) (by rfl) r8 ?_
            refine hK _ _ (hS) ?_; clear hK K; try simp only [nrm]
            refine WpT.on 10 rfl (fun K hK => ?_)
            refine wp_lit3So rfl (by rfl) (by rfl) (by rfl) ?_; intro w9 g9 o9 hb9; have o9' := Own.lower o9 hS.size; replace hS := bstep hS hb9
            refine hK _ _ (hS) ?_; clear hK K; try simp only [nrm]
            refine WpT.ta 11 rfl (fun K hK => ?_)
            go_simp; (try go_bits)
            refine hK _ _ ?_; clear hK K; try simp only [nrm]
            refine WpT.done (by kernel_rfl) ?_ _
            go_wp2_with fail; go_ret; exact ⟨_, rfl, Own.lower o9' hb0.size, bstep hb0 hS⟩
          · go_simp; refine (HR4.out _ hS).mono ?_; rintro e w8 ⟨v8, rfl, o8, hb8⟩; obtain ⟨A8, n8, c8, rfl, -, -, -, r8⟩ := o8.formN; clear o8; (try replace r2 := r2.below hb8); (try replace r5 := r5.below hb8); replace hS := bstep hS hb8
            refine hK _ _ (hS) ?_; clear hK K; try simp only [nrm]
            refine WpT.fork (i := 6) (j := 9) rfl rfl (by kernel_rfl) (fun K hK => ?_) (fun K hK => ?_)
            · refine wp_bts rfl bytesTy (by kernel_rfl) (by rfl) r5 ?_
              refine hK _ _ (hS) ?_; clear hK K; try simp only [nrm]
              refine WpT.on 9 rfl (fun K hK => ?_)
              refine wp_bts rfl bytesTy (by kernel_rfl) (by rfl) r8 ?_
              refine hK _ _ (hS) ?_; clear hK K; try simp only [nrm]
              refine WpT.on 10 rfl (fun K hK => ?_)
              refine wp_lit3So rfl (by rfl) (by rfl) (by rfl) ?_; intro w9 g9 o9 hb9; have o9' := Own.lower o9 hS.size; replace hS := bstep hS hb9
              refine hK _ _ (hS) ?_; clear hK K; try simp only [nrm]
              refine WpT.ta 11 rfl (fun K hK => ?_)
              go_simp; (try go_bits)
              refine hK _ _ ?_; clear hK K; try simp only [nrm]
              refine WpT.done (by kernel_rfl) ?_ _
              go_wp2_with fail; go_ret; exact ⟨_, rfl, Own.lower o9' hb0.size, bstep hb0 hS⟩
            · refine wp_bts rfl bytesTy (by kernel_rfl) (by rfl) r8 ?_
              refine hK _ _ (hS) ?_; clear hK K; try simp only [nrm]
              refine WpT.on 6 rfl (fun K hK => ?_)
              refine wp_bts rfl bytesTy (by kernel_rfl) (by rfl) r5 ?_
              refine hK _ _ (hS) ?_; clear hK K; try simp only [nrm]
              refine WpT.on 10 rfl (fun K hK => ?_)
              refine wp_lit3So rfl (by rfl) (by rfl) (by rfl) ?_; intro w9 g9 o9 hb9; have o9' := Own.lower o9 hS.size; replace hS := bstep hS hb9
              refine hK _ _ (hS) ?_; clear hK K; try simp only [nrm]
              refine WpT.ta 11 rfl (fun K hK => ?_)
              go_simp; (try go_bits)
              refine hK _ _ ?_; clear hK K; try simp only [nrm]
              refine WpT.done (by kernel_rfl) ?_ _
              go_wp2_with fail; go_ret; exact ⟨_, rfl, Own.lower o9' hb0.size, bstep hb0 hS⟩
        · refine wp_bts rfl bytesTy (by kernel_rfl) (by rfl) r5 ?_
          refine hK _ _ (hS) ?_; clear hK K; try simp only [nrm]
          refine WpT.fork (i := 3) (j := 8) rfl rfl (by kernel_rfl) (fun K hK => ?_) (fun K hK => ?_)
          · refine wp_bts rfl bytesTy (by kernel_rfl) (by rfl) r2 ?_
            refine hK _ _ (hS) ?_; clear hK K; try simp only [nrm]
            refine WpT.on 8 rfl (fun K hK => ?_)
            go_simp; refine (HR4.out _ hS).mono ?_; rintro e w8 ⟨v8, rfl, o8, hb8⟩; obtain ⟨A8, n8, c8, rfl, -, -, -, r8⟩ := o8.formN; clear o8; (try replace r2 := r2.below hb8); (try replace r5 := r5.below hb8); replace hS := bstep hS hb8
            refine hK _ _ (hS) ?_; clear hK K; try simp only [nrm]
            refine WpT.on 9 rfl (fun K hK => ?_)
            refine wp_bts rfl bytesTy (by kernel_rfl) (by rfl) r8 ?_
            refine hK _ _ (hS) ?_; clear hK K; try simp only [nrm]
            refine WpT.on 10 rfl (fun K hK => ?_)
            refine wp_lit3So rfl (by rfl) (by rfl) (by rfl) ?_; intro w9 g9 o9 hb9; have o9' := Own.lower o9 hS.size; replace hS := bstep hS hb9
            refine hK _ _ (hS) ?_; clear hK K; try simp only [nrm]
            refine WpT.ta 11 rfl (fun K hK => ?_)
            go_simp; (try go_bits)
            refine hK _ _ ?_; clear hK K; try simp only [nrm]
            refine WpT.done (by kernel_rfl) ?_ _
            go_wp2_with fail; go_ret; exact ⟨_, rfl, Own.lower o9' hb0.size, bstep hb0 hS⟩
          · go_simp; refine (HR4.out _ hS).mono ?_; rintro e w8 ⟨v8, rfl, o8, hb8⟩; obtain ⟨A8, n8, c8, rfl, -, -, -, r8⟩ := o8.formN; clear o8; (try replace r2 := r2.below hb8); (try replace r5 := r5.below hb8); replace hS := bstep hS hb8
            refine hK _ _ (hS) ?_; clear hK K; try simp only [nrm]
            refine WpT.fork (i := 3) (j := 9) rfl rfl (by kernel_rfl) (fun K hK => ?_) (fun K hK => ?_)
            · refine wp_bts rfl bytesTy (by kernel_rfl) (by rfl) r2 ?_
              refine hK _ _ (hS) ?_; clear hK K; try simp only [nrm]
              refine WpT.on 9 rfl (fun K hK => ?_)
              refine wp_bts rfl bytesTy (by kernel_rfl) (by rfl) r8 ?_
              refine hK _ _ (hS) ?_; clear hK K; try simp only [nrm]
              refine WpT.on 10 rfl (fun K hK => ?_)
              refine wp_lit3So rfl (by rfl) (by rfl) (by rfl) ?_; intro w9 g9 o9 hb9; have o9' := Own.lower o9 hS.size; replace hS := bstep hS hb9
              refine hK _ _ (hS) ?_; clear hK K; try simp only [nrm]
              refine WpT.ta 11 rfl (fun K hK => ?_)
              go_simp; (try go_bits)
              refine hK _ _ ?_; clear hK K; try simp only [nrm]
              refine WpT.done (by kernel_rfl) ?_ _
              go_wp2_with fail; go_ret; exact ⟨_, rfl, Own.lower o9' hb0.size, bstep hb0 hS⟩
            · refine wp_bts rfl bytesTy (by kernel_rfl) (by rfl) r8 ?_
              refine hK _ _ (hS) ?_; clear hK K; try simp only [nrm]
              refine WpT.on 3 rfl (fun K hK => ?_)
              refine wp_bts rfl bytesTy (by kernel_rfl) (by rfl) r2 ?_
              refine hK _ _ (hS) ?_; clear hK K; try simp only [nrm]
              refine WpT.on 10 rfl (fun K hK => ?_)
              refine wp_lit3So rfl (by rfl) (by rfl) (by rfl) ?_; intro w9 g9 o9 hb9; have o9' := Own.lower o9 hS.size; replace hS := bstep hS hb9
              refine hK _ _ (hS) ?_; clear hK K; try simp only [nrm]
              refine WpT.ta 11 rfl (fun K hK => ?_)
              go_simp; (try go_bits)
              refine hK _ _ ?_; clear hK K; try simp only [nrm]
              refine WpT.done (by kernel_rfl) ?_ _
              go_wp2_with fail; go_ret; exact ⟨_, rfl, Own.lower o9' hb0.size, bstep hb0 hS⟩
        · go_simp; refine (HR4.out _ hS).mono ?_; rintro e w8 ⟨v8, rfl, o8, hb8⟩; obtain ⟨A8, n8, c8, rfl, -, -, -, r8⟩ := o8.formN; clear o8; (try replace r2 := r2.below hb8); (try replace r5 := r5.below hb8); replace hS := bstep hS hb8
          refine hK _ _ (hS) ?_; clear hK K; try simp only [nrm]
          refine WpT.fork3 (i := 3) (j := 6) (k := 9) rfl rfl rfl (by kernel_rfl) (fun K hK => ?_) (fun K hK => ?_) (fun K hK => ?_)
          · refine wp_bts rfl bytesTy (by kernel_rfl) (by rfl) r2 ?_
            refine hK _ _ (hS) ?_; clear hK K; try simp only [nrm]
            refine WpT.fork (i := 6) (j := 9) rfl rfl (by kernel_rfl) (fun K hK => ?_) (fun K hK => ?_)
            · refine wp_bts rfl bytesTy (by kernel_rfl) (by rfl) r5 ?_
              refine hK _ _ (hS) ?_; clear hK K; try simp only [nrm]
              refine WpT.on 9 rfl (fun K hK => ?_)
              refine wp_bts rfl bytesTy (by kernel_rfl) (by rfl) r8 ?_
              refine hK _ _ (hS) ?_; clear hK K; try simp only [nrm]
              refine WpT.on 10 rfl (fun K hK => ?_)
              refine wp_lit3So rfl (by rfl) (by rfl) (by rfl) ?_; intro w9 g9 o9 hb9; have o9' := Own.lower o9 hS.size; replace hS := bstep hS hb9
              refine hK _ _ (hS) ?_; clear hK K; try simp only [nrm]
              refine WpT.ta 11 rfl (fun K hK => ?_)
              go_simp; (try go_bits)
              refine hK _ _ ?_; clear hK K; try simp only [nrm]
              refine WpT.done (by kernel_rfl) ?_ _
              go_wp2_with fail; go_ret; exact ⟨_, rfl, Own.lower o9' hb0.size, bstep hb0 hS⟩
            · refine wp_bts rfl bytesTy (by kernel_rfl) (by rfl) r8 ?_
              refine hK _ _ (hS) ?_; clear hK K; try simp only [nrm]
              refine WpT.on 6 rfl (fun K hK => ?_)
              refine wp_bts rfl bytesTy (by kernel_rfl) (by rfl) r5 ?_
              refine hK _ _ (hS) ?_; clear hK K; try simp only [nrm]
              refine WpT.on 10 rfl (fun K hK => ?_)
              refine wp_lit3So rfl (by rfl) (by rfl) (by rfl) ?_; intro w9 g9 o9 hb9; have o9' := Own.lower o9 hS.size; replace hS := bstep hS hb9
              refine hK _ _ (hS) ?_; clear hK K; try simp only [nrm]
              refine WpT.ta 11 rfl (fun K hK => ?_)
              go_simp; (try go_bits)
              refine hK _ _ ?_; clear hK K; try simp only [nrm]
              refine WpT.done (by kernel_rfl) ?_ _
              go_wp2_with fail; go_ret; exact ⟨_, rfl, Own.lower o9' hb0.size, bstep hb0 hS⟩
          · refine wp_bts rfl bytesTy (by kernel_rfl) (by rfl) r5 ?_
            refine hK _ _ (hS) ?_; clear hK K; try simp only [nrm]
            refine WpT.fork (i := 3) (j := 9) rfl rfl (by kernel_rfl) (fun K hK => ?_) (fun K hK => ?_)
            · refine wp_bts rfl bytesTy (by kernel_rfl) (by rfl) r2 ?_
              refine hK _ _ (hS) ?_; clear hK K; try simp only [nrm]
              refine WpT.on 9 rfl (fun K hK => ?_)
              refine wp_bts rfl bytesTy (by kernel_rfl) (by rfl) r8 ?_
              refine hK _ _ (hS) ?_; clear hK K; try simp only [nrm]
              refine WpT.on 10 rfl (fun K hK => ?_)
              refine wp_lit3So rfl (by rfl) (by rfl) (by rfl) ?_; intro w9 g9 o9 hb9; have o9' := Own.lower o9 hS.size; replace hS := bstep hS hb9
              refine hK _ _ (hS) ?_; clear hK K; try simp only [nrm]
              refine WpT.ta 11 rfl (fun K hK => ?_)
              go_simp; (try go_bits)
              refine hK _ _ ?_; clear hK K; try simp only [nrm]
              refine WpT.done (by kernel_rfl) ?_ _
              go_wp2_with fail; go_ret; exact ⟨_, rfl, Own.lower o9' hb0.size, bstep hb0 hS⟩
            · refine wp_bts rfl bytesTy (by kernel_rfl) (by rfl) r8 ?_
              refine hK _ _ (hS) ?_; clear hK K; try simp only [nrm]
              refine WpT.on 3 rfl (fun K hK => ?_)
              refine wp_bts rfl bytesTy (by kernel_rfl) (by rfl) r2 ?_
              refine hK _ _ (hS) ?_; clear hK K; try simp only [nrm]
              refine WpT.on 10 rfl (fun K hK => ?_)
              refine wp_lit3So rfl (by rfl) (by rfl) (by rfl) ?_; intro w9 g9 o9 hb9; have o9' := Own.lower o9 hS.size; replace hS := bstep hS hb9
              refine hK _ _ (hS) ?_; clear hK K; try simp only [nrm]
              refine WpT.ta 11 rfl (fun K hK => ?_)
              go_simp; (try go_bits)
              refine hK _ _ ?_; clear hK K; try simp only [nrm]
              refine WpT.done (by kernel_rfl) ?_ _
              go_wp2_with fail; go_ret; exact ⟨_, rfl, Own.lower o9' hb0.size, bstep hb0 hS⟩
          · refine wp_bts rfl bytesTy (by kernel_rfl) (by rfl) r8 ?_
            refine hK _ _ (hS) ?_; clear hK K; try simp only [nrm]
            refine WpT.fork (i := 3) (j := 6) rfl rfl (by kernel_rfl) (fun K hK => ?_) (fun K hK => ?_)
            · refine wp_bts rfl bytesTy (by kernel_rfl) (by rfl) r2 ?_
              refine hK _ _ (hS) ?_; clear hK K; try simp only [nrm]
              refine WpT.on 6 rfl (fun K hK => ?_)
              refine wp_bts rfl bytesTy (by kernel_rfl) (by rfl) r5 ?_
              refine hK _ _ (hS) ?_; clear hK K; try simp only [nrm]
              refine WpT.on 10 rfl (fun K hK => ?_)
              refine wp_lit3So rfl (by rfl) (by rfl) (by rfl) ?_; intro w9 g9 o9 hb9; have o9' := Own.lower o9 hS.size; replace hS := bstep hS hb9
              refine hK _ _ (hS) ?_; clear hK K; try simp only [nrm]
              refine WpT.ta 11 rfl (fun K hK => ?_)
              go_simp; (try go_bits)
              refine hK _ _ ?_; clear hK K; try simp only [nrm]
              refine WpT.done (by kernel_rfl) ?_ _
              go_wp2_with fail; go_ret; exact ⟨_, rfl, Own.lower o9' hb0.size, bstep hb0 hS⟩
            · refine wp_bts rfl bytesTy (by kernel_rfl) (by rfl) r5 ?_
              refine hK _ _ (hS) ?_; clear hK K; try simp only [nrm]
              refine WpT.on 3 rfl (fun K hK => ?_)
              refine wp_bts rfl bytesTy (by kernel_rfl) (by rfl) r2 ?_
              refine hK _ _ (hS) ?_; clear hK K; try simp only [nrm]
              refine WpT.on 10 rfl (fun K hK => ?_)
              refine wp_lit3So rfl (by rfl) (by rfl) (by rfl) ?_; intro w9 g9 o9 hb9; have o9' := Own.lower o9 hS.size; replace hS := bstep hS hb9
              refine hK _ _ (hS) ?_; clear hK K; try simp only [nrm]
              refine WpT.ta 11 rfl (fun K hK => ?_)
              go_simp; (try go_bits)
              refine hK _ _ ?_; clear hK K; try simp only [nrm]
              refine WpT.done (by kernel_rfl) ?_ _
              go_wp2_with fail; go_ret; exact ⟨_, rfl, Own.lower o9' hb0.size, bstep hb0 hS⟩
end Go.Proofs.YtcapckngikekpaaGreatDoor
namespace Go.Proofs.YtcapckngikekpaaGreatDoor
set_option linter.unusedSimpArgs false
set_option linter.unusedVariables false
open Go.RowKit Exch Merk Ring Sha
def contentV (vec : List Int) (attrs : List At) : List ByteArray := [⟨(encInts vec).toArray⟩, ⟨(encInts (numsOf attrs)).toArray⟩, ⟨(encStrs (textsOf attrs)).toArray⟩]
theorem length_encInts (l : List Int) : (encInts l).length ≤ 10 + l.length * 10 := by
  unfold encInts
  rw [List.length_append]
  have := length_encI l.length
  have := length_flatI l
  omega
theorem content_few {e : Ev} (h : EvFew e) : ∀ s ∈ contentL e, s.size ≤ 65536 := by
  intro s hs
  have h1 := length_encInts e.vec
  have h2 := length_encInts (numsOf e.attrs)
  have h3 := numsOf_len e.attrs
  have h4 := textsOf_len e.attrs
  have h5 : ∀ s ∈ textsOf e.attrs, s.size ≤ 200 := fun x hx => by
    obtain ⟨a, ha, hx⟩ := List.mem_flatMap.1 hx
    have := h.texts a ha
    simp only [List.mem_cons, List.not_mem_nil, or_false] at hx
    rcases hx with rfl | rfl
    · exact this.1
    · exact this.2
  have h6 : ∀ l : List ByteArray, (∀ s ∈ l, s.size ≤ 200) → (l.flatMap fun s => encB s.data.toList).length ≤ l.length * 210 := fun l => by
    induction l with
    | nil => intro _; simp
    | cons x l ih =>
      intro hl
      have a1 := ih fun s hs => hl s (by simp [hs])
      have a2 : (encB x.data.toList).length ≤ 210 := by
        unfold encB
        rw [List.length_append]
        have := length_vint 9 (2 * x.data.toList.length)
        have e1 : x.data.toList.length = x.size := by simp
        have := hl x (by simp)
        omega
      simp only [List.flatMap_cons, List.length_append, List.length_cons]; omega
  have h7 := h6 _ h5
  have h8 : (encStrs (textsOf e.attrs)).length ≤ 10 + (textsOf e.attrs).length * 210 := by
    unfold encStrs
    rw [List.length_append]
    have := length_encI (textsOf e.attrs).length
    omega
  have h9 := h.vec
  have h10 := h.attrs
  simp only [contentL, List.mem_cons, List.not_mem_nil, or_false] at hs
  rcases hs with rfl | rfl | rfl <;> simp only [ByteArray.size, List.size_toArray] <;> omega
def faceNums (f : Fc) : List Int := [f.kind, f.commit, f.day, f.id, f.owner, f.til, f.frm]
def leafS (f : Fc) : ByteArray := ⟨(encInts (faceNums f) ++ dg f.blind).toArray⟩
def headP (o c d s : Int) (root : Nat) : List ByteArray := [⟨(encInts [o, c, d, s]).toArray⟩, dgS root]
def rcptP (o s : Int) (leaf : Nat) : List ByteArray := [⟨(encInts [o, s]).toArray⟩, dgS leaf]
theorem leafS_size (f : Fc) : (leafS f).size ≤ 200 := by
  have := length_encInts (faceNums f)
  have e : (faceNums f).length = 7 := rfl
  simp only [leafS, ByteArray.size, List.size_toArray, List.length_append, dg_len]
  omega
theorem headP_few (o c d s : Int) (root : Nat) : ∀ x ∈ headP o c d s root, x.size ≤ 65536 := by
  intro x hx
  have := length_encInts [o, c, d, s]
  simp only [headP, List.mem_cons, List.not_mem_nil, or_false] at hx
  rcases hx with rfl | rfl
  · simp only [ByteArray.size, List.size_toArray]; simp at this; omega
  · rw [dgS_size]; omega
theorem rcptP_few (o s : Int) (leaf : Nat) : ∀ x ∈ rcptP o s leaf, x.size ≤ 65536 := by
  intro x hx
  have := length_encInts [o, s]
  simp only [rcptP, List.mem_cons, List.not_mem_nil, or_false] at hx
  rcases hx with rfl | rfl
  · simp only [ByteArray.size, List.size_toArray]; simp at this; omega
  · rw [dgS_size]; omega
/-- The ledger's hashes, as they are. -/
def theHe : He where
  bl := fun n v a => val (dig16 (inputL 121 (dgS n :: contentV v a)))
  lf := fun f => leafN (leafS f)
  nd := nodeN
  em := emptyN
  sh := fun s o c d sr rt => val (dig16 (inputL 200 ([s] ++ headP o c d sr rt ++ [s])))
  sr := fun s o sr lf => val (dig16 (inputL 201 ([s] ++ rcptP o sr lf ++ [s])))
def isD (d : Nat) (w : World) (e : Ending) (w' : World) : Prop := e = .returned (dgV d) ∧ Below w.heap.size w w'
/-- What the hashing functions return. -/
structure Les (H : He) : Prop where
  nds : Nds H.nd H.em
  blt : ∀ n v a, H.bl n v a < 2 ^ 128
  llt : ∀ f, H.lf f < 2 ^ 128
  hlt : ∀ s o c d sr rt, H.sh s o c d sr rt < 2 ^ 128
  rlt : ∀ s o sr lf, H.sr s o sr lf < 2 ^ 128
  blind : ∀ (n : Nat) (v : List Int) (a : List At) (A : Option Addr) (k c : Nat) (w : World), k ≤ 100 → (∀ s ∈ contentV v a, s.size ≤ 65536) → Rd w A k (sv (contentV v a)) → GCon w → Calls Tryz.prog 50 #[.string (dgS n), .slice A k c] w (isD (H.bl n v a) w)
  refBlind : ∀ (n : Nat) (v : List Int) (a : List At) (A : Option Addr) (k c : Nat) (w : World), k ≤ 10 → (∀ s ∈ contentV v a, s.size ≤ 65536) → Rd w A k (sv (contentV v a)) → RCon w → Calls Tryz.prog 52 #[.string (dgS n), .slice A k c] w (isD (H.bl n v a) w)
  leaf : ∀ (f : Fc) (w : World), GCon w → Calls Tryz.prog 55 #[.string (leafS f)] w (isD (H.lf f) w)
  refLeaf : ∀ (f : Fc) (w : World), RCon w → Calls Tryz.prog 57 #[.string (leafS f)] w (isD (H.lf f) w)
  makeH : ∀ (k : Key) (o c d sr : Int) (rt : Nat) (A : Option Addr) (n m : Nat) (w : World), n ≤ 10 → k.secret.size ≤ 65536 → Rd w A n (sv (headP o c d sr rt)) → GCon w → Calls Tryz.prog 75 #[keyV k, .int .i64 200, .slice A n m] w (isD (H.sh k.secret o c d sr rt) w)
  makeR : ∀ (k : Key) (o sr : Int) (lf : Nat) (A : Option Addr) (n m : Nat) (w : World), n ≤ 10 → k.secret.size ≤ 65536 → Rd w A n (sv (rcptP o sr lf)) → GCon w → Calls Tryz.prog 75 #[keyV k, .int .i64 201, .slice A n m] w (isD (H.sr k.secret o sr lf) w)
  refMakeH : ∀ (k : Key) (o c d sr : Int) (rt : Nat) (A : Option Addr) (n m : Nat) (w : World), n ≤ 10 → k.secret.size ≤ 65536 → Rd w A n (sv (headP o c d sr rt)) → RCon w → Calls Tryz.prog 80 #[keyV k, .int .i64 200, .slice A n m] w (isD (H.sh k.secret o c d sr rt) w)
  refMakeR : ∀ (k : Key) (o sr : Int) (lf : Nat) (A : Option Addr) (n m : Nat) (w : World), n ≤ 10 → k.secret.size ≤ 65536 → Rd w A n (sv (rcptP o sr lf)) → RCon w → Calls Tryz.prog 80 #[keyV k, .int .i64 201, .slice A n m] w (isD (H.sr k.secret o sr lf) w)
  checkH : ∀ (R : Option Addr) (rn rc : Nat) (ring : List Key) (p s o c d sr day : Int) (rt sig : Nat) (A : Option Addr) (n m : Nat) (w : World), rn ≤ 1000 → RdK w R rn ring → Sorted ring → (∀ k ∈ ring, validB k = true) → n ≤ 10 → Rd w A n (sv (headP o c d sr rt)) → sig < 2 ^ 128 → GCon w →
    Calls Tryz.prog 92 #[.slice R rn rc, .int .i64 p, .int .i64 s, .int .i64 200, .slice A n m, dgV sig, .int .i64 day] w fun e w' => e = .returned (.int .i64 (sigG ring p s day (fun x => H.sh x o c d sr rt) sig)) ∧ Below w.heap.size w w'
  checkR : ∀ (R : Option Addr) (rn rc : Nat) (ring : List Key) (p s o sr day : Int) (lf sig : Nat) (A : Option Addr) (n m : Nat) (w : World), rn ≤ 1000 → RdK w R rn ring → Sorted ring → (∀ k ∈ ring, validB k = true) → n ≤ 10 → Rd w A n (sv (rcptP o sr lf)) → sig < 2 ^ 128 → GCon w →
    Calls Tryz.prog 92 #[.slice R rn rc, .int .i64 p, .int .i64 s, .int .i64 201, .slice A n m, dgV sig, .int .i64 day] w fun e w' => e = .returned (.int .i64 (sigG ring p s day (fun x => H.sr x o sr lf) sig)) ∧ Below w.heap.size w w'
  refCheckH : ∀ (R : Option Addr) (rn rc : Nat) (ring : List Key) (p s o c d sr day : Int) (rt sig : Nat) (A : Option Addr) (n m : Nat) (w : World), rn ≤ 1000 → RdK w R rn ring → (∀ k ∈ ring, validB k = true) → n ≤ 10 → Rd w A n (sv (headP o c d sr rt)) → sig < 2 ^ 128 → RCon w →
    Calls Tryz.prog 93 #[.slice R rn rc, .int .i64 p, .int .i64 s, .int .i64 200, .slice A n m, dgV sig, .int .i64 day] w fun e w' => e = .returned (.int .i64 (sigG ring p s day (fun x => H.sh x o c d sr rt) sig)) ∧ Below w.heap.size w w'
  refCheckR : ∀ (R : Option Addr) (rn rc : Nat) (ring : List Key) (p s o sr day : Int) (lf sig : Nat) (A : Option Addr) (n m : Nat) (w : World), rn ≤ 1000 → RdK w R rn ring → (∀ k ∈ ring, validB k = true) → n ≤ 10 → Rd w A n (sv (rcptP o sr lf)) → sig < 2 ^ 128 → RCon w →
    Calls Tryz.prog 93 #[.slice R rn rc, .int .i64 p, .int .i64 s, .int .i64 201, .slice A n m, dgV sig, .int .i64 day] w fun e w' => e = .returned (.int .i64 (sigG ring p s day (fun x => H.sr x o sr lf) sig)) ∧ Below w.heap.size w w'
theorem dgV_dig (l : List UInt8) : Value.agg (bv (dig16 l)).toArray = dgV (val (dig16 l)) := by rw [digN_dg]
theorem dg_bv (n : Nat) : dgV n = .agg (bv (dg n)).toArray := rfl
theorem sig_eq {want : ByteArray → List UInt8} (hw : ∀ s, (want s).length = 16) (ring : List Key) (p s day : Int) (sig : Nat) (hs : sig < 2 ^ 128) :
    (match find (bare p s) ring with | none => (5 : Int) | some k => if cntB k day then (if want k.secret = dg sig then 0 else 8) else 9) = sigG ring p s day (fun x => val (want x)) sig := by
  unfold sigG
  cases find (bare p s) ring with
  | none => rfl
  | some k =>
    dsimp only
    have e : (want k.secret = dg sig) = (val (want k.secret) = sig) := by
      have h1 : dg (val (want k.secret)) = want k.secret := dg_val (hw _)
      have h2 : val (want k.secret) < 2 ^ 128 := by have := val_lt (want k.secret); rwa [hw, n256] at this
      have h3 : (want k.secret = dg sig) = (dg (val (want k.secret)) = dg sig) := by rw [h1]
      rw [h3, dg_eq h2 hs]
    simp only [e]
theorem isD_of {e : Ending} {w w' : World} {l : List UInt8} {c : Array Value} (hc : c = (bv (dig16 l)).toArray) (h : e = .returned (.agg c) ∧ Below w.heap.size w w') : isD (val (dig16 l)) w e w' := by
  refine ⟨?_, h.2⟩
  rw [h.1, hc, dgV_dig]
section
variable (n : Nat) (v : List Int) (a : List At) (A : Option Addr) (k c : Nat) (w : World)
theorem lds_blind (hk : k ≤ 100) (hs : ∀ s ∈ contentV v a, s.size ≤ 65536) (hr : Rd w A k (sv (contentV v a))) (hg : GCon w) : Calls Tryz.prog 50 #[.string (dgS n), .slice A k c] w (isD (val (dig16 (inputL 121 (dgS n :: contentV v a)))) w) :=
  (blind_any (dgS n) A k c (contentV v a) w hk hs (by rw [dgS_size]; omega) hr hg).mono fun e w' h => isD_of rfl h
theorem lds_refBlind (hk : k ≤ 10) (hs : ∀ s ∈ contentV v a, s.size ≤ 65536) (hr : Rd w A k (sv (contentV v a))) (hg : RCon w) : Calls Tryz.prog 52 #[.string (dgS n), .slice A k c] w (isD (val (dig16 (inputL 121 (dgS n :: contentV v a)))) w) :=
  (refBlind_any (dgS n) A k c (contentV v a) w hk hs (by rw [dgS_size]; omega) hr hg).mono fun e w' h => isD_of rfl h
end
theorem lds_make (k : Key) (tag : Int) (l : List ByteArray) (A : Option Addr) (n m : Nat) (w : World) (hn : n ≤ 10) (hl : ∀ x ∈ l, x.size ≤ 65536) (hk : k.secret.size ≤ 65536) (hr : Rd w A n (sv l)) (hg : GCon w) : Calls Tryz.prog 75 #[keyV k, .int .i64 tag, .slice A n m] w (isD (val (dig16 (inputL tag ([k.secret] ++ l ++ [k.secret])))) w) :=
  (make_any k tag A n m l w (by omega) hl hk hr hg).mono fun e w' h => isD_of rfl h
theorem lds_refMake (k : Key) (tag : Int) (l : List ByteArray) (A : Option Addr) (n m : Nat) (w : World) (hn : n ≤ 10) (hl : ∀ x ∈ l, x.size ≤ 65536) (hk : k.secret.size ≤ 65536) (hr : Rd w A n (sv l)) (hg : RCon w) : Calls Tryz.prog 80 #[keyV k, .int .i64 tag, .slice A n m] w (isD (val (dig16 (inputL tag ([k.secret] ++ l ++ [k.secret])))) w) :=
  (refMake_any k tag A n m l w hn hl hk hr hg).mono fun e w' h => isD_of rfl h
theorem chk_sig (p s tag : Int) (parts : List ByteArray) (sig : Nat) (day : Int) (ring : List Key) (hs : sig < 2 ^ 128) : chkR p s tag parts (dg sig) day ring = sigG ring p s day (fun x => val (dig16 (inputL tag ([x] ++ parts ++ [x])))) sig := by
  unfold chkR
  exact sig_eq (want := fun x => sealL x tag parts) (fun x => length_sealL x tag parts) ring p s day sig hs
section
variable (R : Option Addr) (rn rc : Nat) (ring : List Key) (p s tag day : Int) (parts : List ByteArray) (sig : Nat) (A : Option Addr) (n m : Nat) (w : World)
theorem lds_check (hrn : rn ≤ 1000) (hrk : RdK w R rn ring) (hso : Sorted ring) (hv : ∀ k ∈ ring, validB k = true) (hn : n ≤ 10) (hl : ∀ x ∈ parts, x.size ≤ 65536) (hr : Rd w A n (sv parts)) (hs : sig < 2 ^ 128) (hg : GCon w) :
    Calls Tryz.prog 92 #[.slice R rn rc, .int .i64 p, .int .i64 s, .int .i64 tag, .slice A n m, dgV sig, .int .i64 day] w fun e w' => e = .returned (.int .i64 (sigG ring p s day (fun x => val (dig16 (inputL tag ([x] ++ parts ++ [x])))) sig)) ∧ Below w.heap.size w w' := by
  have h := check_any R rn rc ring p s tag A n m parts (dg sig) day w hrn hrk hso hv (by omega) hl hr (dg_len sig) hg
  rw [chk_sig p s tag parts sig day ring hs] at h
  exact h
theorem lds_refCheck (hrn : rn ≤ 1000) (hrk : RdK w R rn ring) (hv : ∀ k ∈ ring, validB k = true) (hn : n ≤ 10) (hl : ∀ x ∈ parts, x.size ≤ 65536) (hr : Rd w A n (sv parts)) (hs : sig < 2 ^ 128) (hg : RCon w) :
    Calls Tryz.prog 93 #[.slice R rn rc, .int .i64 p, .int .i64 s, .int .i64 tag, .slice A n m, dgV sig, .int .i64 day] w fun e w' => e = .returned (.int .i64 (sigG ring p s day (fun x => val (dig16 (inputL tag ([x] ++ parts ++ [x])))) sig)) ∧ Below w.heap.size w w' := by
  have h := refCheck_any R rn rc ring p s tag A n m parts (dg sig) day w hrn hrk hv hn hl hr (dg_len sig) hg
  rw [chk_sig p s tag parts sig day ring hs] at h
  exact h
end
theorem lds : Les theHe where
  nds := by dsimp only [theHe]; exact Go.Proofs.YtcapckngikekpaaGreatDoor.nds
  blt := by intro n v a; dsimp only [theHe]; exact digN_lt _
  llt := by intro f; dsimp only [theHe]; exact leafN_lt _
  hlt := by intros; dsimp only [theHe]; exact digN_lt _
  rlt := by intros; dsimp only [theHe]; exact digN_lt _
  blind := by intro n v a A k c w hk hs hr hg; dsimp only [theHe]; exact lds_blind n v a A k c w hk hs hr hg
  refBlind := by intro n v a A k c w hk hs hr hg; dsimp only [theHe]; exact lds_refBlind n v a A k c w hk hs hr hg
  leaf := by intro f w hg; dsimp only [theHe]; unfold isD; exact leaf_any (leafS f) w (by have := leafS_size f; omega) hg
  refLeaf := by intro f w hg; dsimp only [theHe]; unfold isD; exact refLeaf_any (leafS f) w (by have := leafS_size f; omega) hg
  makeH := by intro k o c d sr rt A n m w hn hk hr hg; dsimp only [theHe]; exact lds_make k 200 (headP o c d sr rt) A n m w hn (headP_few o c d sr rt) hk hr hg
  makeR := by intro k o sr lf A n m w hn hk hr hg; dsimp only [theHe]; exact lds_make k 201 (rcptP o sr lf) A n m w hn (rcptP_few o sr lf) hk hr hg
  refMakeH := by intro k o c d sr rt A n m w hn hk hr hg; dsimp only [theHe]; exact lds_refMake k 200 (headP o c d sr rt) A n m w hn (headP_few o c d sr rt) hk hr hg
  refMakeR := by intro k o sr lf A n m w hn hk hr hg; dsimp only [theHe]; exact lds_refMake k 201 (rcptP o sr lf) A n m w hn (rcptP_few o sr lf) hk hr hg
  checkH := by intro R rn rc ring p s o c d sr day rt sig A n m w hrn hrk hso hv hn hr hs hg; dsimp only [theHe]; exact lds_check R rn rc ring p s 200 day (headP o c d sr rt) sig A n m w hrn hrk hso hv hn (headP_few o c d sr rt) hr hs hg
  checkR := by intro R rn rc ring p s o sr day lf sig A n m w hrn hrk hso hv hn hr hs hg; dsimp only [theHe]; exact lds_check R rn rc ring p s 201 day (rcptP o sr lf) sig A n m w hrn hrk hso hv hn (rcptP_few o sr lf) hr hs hg
  refCheckH := by intro R rn rc ring p s o c d sr day rt sig A n m w hrn hrk hv hn hr hs hg; dsimp only [theHe]; exact lds_refCheck R rn rc ring p s 200 day (headP o c d sr rt) sig A n m w hrn hrk hv hn (headP_few o c d sr rt) hr hs hg
  refCheckR := by intro R rn rc ring p s o sr day lf sig A n m w hrn hrk hv hn hr hs hg; dsimp only [theHe]; exact lds_refCheck R rn rc ring p s 201 day (rcptP o sr lf) sig A n m w hrn hrk hv hn (rcptP_few o sr lf) hr hs hg
end Go.Proofs.YtcapckngikekpaaGreatDoor
namespace Go.Proofs.YtcapckngikekpaaGreatDoor
set_option linter.unusedSimpArgs false
set_option linter.unusedVariables false
open Go.RowKit Exch Merk Ring
theorem wpList_build4 {P : Program} {w : World} {ops : Array Oper} {rest : List Oper} {o : Oper} {a : Act} {Q : Exit → Act → World → Prop} (hgd : o.guard = none) {T : TypeId} {i j k l : Nat} {x y z u : Operand} {vx vy vz vu v : Value} (ho : o.op = .build T #[(i, x), (j, y), (k, z), (l, u)]) (hx : a.eval x = vx) (hy : a.eval y = vy) (hz : a.eval z = vz) (hu : a.eval u = vu)
    (hr : ∀ W, (Instr.build T #[(i, vx), (j, vy), (k, vz), (l, vu)]).run P W = .ok v W) (h : wpList P ops Q rest (a.put o.dst v) w) : wpList P ops Q (o :: rest) a w := by
  refine wpList_plain hgd fun K hK => ?_
  unfold Oper.wp execOp
  simp only [ho, List.map_toArray, List.map_cons, List.map_nil, hx, hy, hz, hu, Sem.run_bind, hr, Result.andThen_ok, Sem.run_pure]
  exact hK _ _ h
theorem wp_set1 {P : Program} {w : World} {o : Oper} {a : Act} {K : Act → World → Prop} {Q : Exit → Act → World → Prop} {ty : TypeId} {x y : Operand} (ho : o.op = .store ty x y) (hi : (P.info? ty).map (·.size) = some 1)
    {g j : Nat} (hx : a.eval x = .pointer (some ⟨g, j, none⟩)) {v : Value} (hy : a.eval y = v) (h1 : v.oneCell' = true) {T : TypeId} {cs cs' : Array Value} (hb : Blk w g T cs) (hj : j < cs.size) (hcs : cs.setIfInBounds j v = cs')
    (h : ∀ w', Turned g w w' → Blk w' g T cs' → K (a.put o.dst undef) w') : o.wp P a w K Q :=
  wp_store1 (K := K) ho hi hx hy h1 hb hj fun w' hw' h2 => h w' (by rw [hw']; exact Turned.of_setCell _ _ _ _) (by rw [← hcs]; exact h2)
theorem wp_putAt {P : Program} {w : World} {o : Oper} {a : Act} {K : Act → World → Prop} {Q : Exit → Act → World → Prop} {ty : TypeId} {x y : Operand} (ho : o.op = .store ty x y) {g j : Nat} (hx : a.eval x = .pointer (some ⟨g, j, none⟩))
    {T : TypeId} {cs cs' : Array Value} {vs : List Value} (hy : a.eval y = .agg vs.toArray) (hb : Blk w g T cs) (hl : j + vs.length ≤ cs.size) (hi : (P.info? ty).map (·.size) = some vs.length) (h1 : ∀ v ∈ vs, v.oneCell' = true) (hcs : (cs.toList.take j ++ vs ++ cs.toList.drop (j + vs.length)).toArray = cs')
    (h : ∀ w', Turned g w w' → Blk w' g T cs' → K (a.put o.dst undef) w') : o.wp P a w K Q := by
  refine wp_storeRow (o := j) (vs := vs.toArray) ho hx hy hb (by simpa using hl) (by simpa using hi) (by simpa using h1) (h _ (Turned.of_setCells _ _ _ _) ?_)
  have := Blk.row g T vs j w cs hb hl
  rw [hcs] at this
  exact this
theorem fc_set3 (f : Fc) (v : Int) : (fcC f).setIfInBounds 3 (.int .i64 v) = fcC { f with id := v } := by simp [fcC, fcL]
theorem fc_set4 (f : Fc) (v : Int) : (fcC f).setIfInBounds 4 (.int .i64 v) = fcC { f with owner := v } := by simp [fcC, fcL]
theorem fc_set5 (f : Fc) (v : Int) : (fcC f).setIfInBounds 5 (.int .i64 v) = fcC { f with til := v } := by simp [fcC, fcL]
theorem fc_set6 (f : Fc) (v : Int) : (fcC f).setIfInBounds 6 (.int .i64 v) = fcC { f with frm := v } := by simp [fcC, fcL]
theorem fc_blind (f : Fc) (b : Nat) : ((fcC f).toList.take 7 ++ bv (dg b) ++ (fcC f).toList.drop (7 + (bv (dg b)).length)).toArray = fcC { f with blind := b } := by
  have e : (fcC f).toList.drop (7 + (bv (dg b)).length) = [] := List.drop_eq_nil_of_le (by rw [bv_dg_len]; show (fcL f).length ≤ 23; rw [fcL_len]; omega)
  rw [e, List.append_nil]
  simp [fcC, fcL]
theorem build_fc4 (a b c d : Int) (W : World) : (Instr.build 29 #[(0, .int .i64 a), (1, .int .i64 b), (2, .int .i64 c), (3, .int .i64 d)]).run Tryz.prog W = .ok (fcV ⟨a, b, c, d, 0, 0, 0, 0⟩) W := by kernel_rfl
theorem one_bvL (l : List UInt8) : ∀ v ∈ bv l, v.oneCell' = true := by
  intro u hu
  simp only [bv, List.mem_map] at hu
  obtain ⟨b, _, rfl⟩ := hu
  rfl
theorem ev_rdN {W : World} {g : Nat} {T : TypeId} {r : EvR} (hb : Blk W g T (evC r)) : Rd W (some ⟨g, 9, none⟩) 16 (bv (dg r.e.nonce)) := ⟨bv_dg_len _, fun k u hk => ⟨_, rfl, ev_nonce hb k u hk⟩⟩
theorem fcBox (w : World) (r : EvR) : ∃ wa : World, wa = (w.alloc (.cells (evC r) 27)).alloc (.cells (fcC zeroFc) 29) ∧ Below w.heap.size w wa ∧ Blk wa w.heap.size 27 (evC r) ∧ Blk wa (w.heap.size + 1) 29 (fcC zeroFc) :=
  ⟨_, rfl, ((Below.refl w.heap.size w).alloc (Nat.le_refl _) _).alloc (by simp) _, (Blk.new _ _ _).alloc _, Blk.new2 _ _ _ _⟩
def FcIs (f : Fc) (w : World) (e : Ending) (w' : World) : Prop := e = .returned (fcV f) ∧ Below w.heap.size w w'
set_option maxRecDepth 100000 in
set_option maxHeartbeats 4000000 in
theorem faceOf_1 {H : He} (L : Les H) (r : EvR) (w : World) (h : EvOk w r) (hw : EvWf r.e) (hf : EvFew r.e) (hg : GCon w) (hk : r.e.kind = 1) :
    Calls Tryz.prog 12 #[evV r] w (FcIs (faceOf H r.e) w) := by
  have hF : faceOf H r.e = ⟨1, r.e.commit, r.e.day, r.e.id, r.e.owner, r.e.til, 0, (H.bl r.e.nonce r.e.vec r.e.attrs)⟩ := by simp [faceOf, hk]
  rw [hF]
  clear hF
  obtain ⟨wa, hwa, hb0, q1, q2⟩ := fcBox w r
  have HWA := Lib.hid hwa
  clear hwa
  have hcells := Lib.hid (fun W (hb : Below wa.heap.size wa W) => ev_at (q1.below hb))
  have HC : Hid (∀ W, Below wa.heap.size wa W → W.cell? ⟨w.heap.size, 0, none⟩ = some (.int .i64 1) ∧ W.cell? ⟨w.heap.size, 1, none⟩ = some (.int .i64 r.e.commit) ∧ W.cell? ⟨w.heap.size, 2, none⟩ = some (.int .i64 r.e.day) ∧ W.cell? ⟨w.heap.size, 3, none⟩ = some (.int .i64 r.e.id) ∧ W.cell? ⟨w.heap.size, 4, none⟩ = some (.int .i64 r.e.owner) ∧ W.cell? ⟨w.heap.size, 5, none⟩ = some (.int .i64 r.e.til) ∧ W.cell? ⟨w.heap.size, 6, none⟩ = some (.int .i64 r.e.frm)) := Lib.hid (fun W hb => by
    have hc := hcells.out W hb
    have z0 := hc 0
    rw [show (evL r)[0]? = some (.int .i64 r.e.kind) from rfl, hk] at z0
    exact ⟨z0, hc 1, hc 2, hc 3, hc 4, hc 5, hc 6⟩)
  have HCT := Lib.hid (fun W (hb : Below w.heap.size w W) => content_any r W (h.below hb) hw hf)
  have HBL := Lib.hid (fun A k c W (hb : Below w.heap.size w W) (hk : k ≤ 100) (hr : Rd W A k (sv (contentL r.e))) => L.blind r.e.nonce r.e.vec r.e.attrs A k c W hk (content_few hf) hr (hg.below hb))
  have HCL : Hid ((contentL r.e).length = 3) := Lib.hid rfl
  have HRN := Lib.hid (fun W (hb : Below wa.heap.size wa W) => ev_rdN (q1.below hb))
  generalize contentL r.e = CL at *
  generalize H.bl r.e.nonce r.e.vec r.e.attrs = BL at *
  generalize r.e.nonce = NC at *
  clear hk h hw hf hg L hcells
  generalize r.e.commit = k1 at *
  generalize r.e.day = k2 at *
  generalize r.e.id = k3 at *
  generalize r.e.owner = k4 at *
  generalize r.e.til = k5 at *
  generalize r.e.frm = k6 at *
  have hB4 := build_fc4 1 k1 k2 k3
  obtain ⟨c0, c1, c2, c3, c4, c5, c6⟩ := HC.out _ (Below.refl _ _)
  have hlt2 := q2.lt
  unfold FcIs
  go_enter Tryz.func12, Tryz.ntmps12
  go_upto_region 1 with fail
  change Code.wp _ _ _ _ ((w.alloc (.cells (evC r) 27)).alloc (.cells (fcC zeroFc) 29))
  rw [← HWA.out]
  go_upto_region 2 with (first
    | ((with_reducible show wpList _ _ _ (⟨some 12, _, _, _, _, _⟩ :: _) _ _); refine wpList_build4 rfl rfl rfl rfl rfl rfl hB4 ?_)
    | ((with_reducible show wpList _ _ _ (⟨some 3, _, _, _, _, _⟩ :: _) _ _); refine wpList_newRow (z := fcC zeroFc) (vs := fcC ⟨1, k1, k2, k3, 0, 0, 0, 0⟩) rfl rfl rfl rfl (zeroFc_v _) (fun _ => rfl) (fun _ => rfl) (by rw [fcC_size, fcC_size]) (by rw [sizeFc, fcC_size]) (one_fcC _) ?_; intro w3 g3 hg3 b3 hb3 lt3; have hgw : wa.heap.size ≤ g3 := (by omega); have hne3 : w.heap.size + 1 < g3 := (by omega); clear hg3 lt3))
  replace q1 := q1.below hb3
  replace q2 := q2.below hb3
  obtain ⟨d0, d1, d2, d3, d4, d5, d6⟩ := HC.out _ hb3
  have hb0a := Lib.hid hb0
  have hbw : Below wa.heap.size wa w3 := hb3
  clear c0 c1 c2 c3 c4 c5 c6 d1 d2 d3 hb3
  go_upto_region 4 with fail
  have hd3 : Below w3.heap.size w3 w3.drew := (Below.refl _ _).drew
  have b3d := b3.below hd3
  have hS : Below g3 w3 w3.drew := hd3.mono (by have := b3.lt; omega)
  have HL4 := Lib.hid (fun W (h : Below g3 w3 W) => HC.out W (hbw.trans (h.mono hgw)))
  refine wp_region_TS (S := (fun W => Below g3 w3 W)) 7 (by kernel_rfl) ?_
  refine WpT.tk 0 (hS) ?_
  try simp only [nrm]
  refine WpT.tl 1 rfl (yields_load1Q rfl rfl rfl (by kernel_rfl) (fun W h => (HL4.out W h).2.2.2.2.1)) (hS) ?_
  try simp only [nrm]
  refine WpT.tk 2 (hS) ?_
  try simp only [nrm]
  refine WpT.tl 3 rfl (yields_load1Q rfl rfl rfl (by kernel_rfl) (fun W h => (HL4.out W h).2.2.2.2.2.1)) (hS) ?_
  try simp only [nrm]
  refine WpT.tk 4 (hS) ?_
  try simp only [nrm]
  refine WpT.on 5 rfl (fun K hK => ?_)
  refine wp_set1 rfl (by kernel_rfl) (by rfl) (by rfl) rfl b3d (by rw [fcC_size]; omega) (fc_set4 _ _) ?_; intro w4 ht4 b4; replace hS := hS.trans (ht4.below _ (Nat.le_refl _))
  refine hK _ _ (hS) ?_; clear hK K; try simp only [nrm]
  refine WpT.tk 6 (hS) ?_
  try simp only [nrm]
  refine WpT.ta 7 rfl (fun K hK => ?_)
  refine wp_set1 rfl (by kernel_rfl) (by rfl) (by rfl) rfl b4 (by rw [fcC_size]; omega) (fc_set5 _ _) ?_; intro w5 ht5 b5
  refine hK _ _ ?_; clear hK K; try simp only [nrm]
  refine WpT.done (by kernel_rfl) ?_ _
  skip
  have hbN : Below g3 w3 w5 := hS.trans (ht5.below _ (Nat.le_refl _))
  replace q1 : Blk w5 w.heap.size 27 (evC r) := (hbN.block _ (by omega)).trans q1
  replace q2 : Blk w5 (w.heap.size + 1) 29 (fcC zeroFc) := (hbN.block _ (by omega)).trans q2
  clear d0 d4 d5 d6 b3 b3d b4 ht4 ht5 hS hd3
  have x0 : w5.cell? ⟨w.heap.size, 0, none⟩ = some (.int .i64 1) := (HC.out _ (hbw.trans (hbN.mono (by omega)))).1
  go_upto_region 13 with fail
  have hbA : Below wa.heap.size wa w5 := hbw.trans (hbN.mono (by omega))
  have hS : Below w5.heap.size w5 w5.drew := (Below.refl _ _).drew
  have hbW : Below w.heap.size w w5 := bstep hb0a.out hbA
  have hrn := HRN.out _ hbA
  refine wp_region_T 7 (by kernel_rfl) ?_
  refine WpT.tk 0 (hS) ?_
  try simp only [nrm]
  refine WpT.tk 1 (hS) ?_
  try simp only [nrm]
  refine WpT.tl 2 rfl (yields_bts rfl rfl bytesTy (by kernel_rfl) (by rfl) hrn) (hS) ?_
  try simp only [nrm]
  refine WpT.tl 3 rfl (yields_blk rfl rfl rfl aggEv (by rw [sizeEv, evC_size]) q1) (hS) ?_
  try simp only [nrm]
  refine WpT.on 4 rfl (fun K hK => ?_)
  go_simp; refine (HCT.out _ (bstep hbW hS)).mono ?_; unfold SsIs; rintro e w6 ⟨v6, rfl, o6, hb6⟩; obtain ⟨A6, n6, c6, rfl, hn6, -, -, r6⟩ := o6.formN; replace hS := bstep hS hb6; have hn6' : n6 ≤ 100 := (by have h6 := hn6.out; rw [length_sv, HCL.out] at h6; omega); clear hn6 o6
  refine hK _ _ (hS) ?_; clear hK K; try simp only [nrm]
  refine WpT.on 5 rfl (fun K hK => ?_)
  go_simp; refine (HBL.out A6 n6 c6 _ (bstep hbW hS) hn6' r6).mono ?_; unfold isD; rintro e w7 ⟨rfl, hb7⟩; replace hS := bstep hS hb7
  refine hK _ _ (hS) ?_; clear hK K; try simp only [nrm]
  refine WpT.tk 6 (hS) ?_
  try simp only [nrm]
  refine WpT.ta 7 rfl (fun K hK => ?_)
  refine wp_putAt (vs := bv (dg BL)) rfl (by rfl) (by rfl) (b5.below hS) (by rw [bv_dg_len, fcC_size]; omega) (by rw [sizeDg, bv_dg_len]) (one_bvL _) (fc_blind _ _) ?_; intro w8 ht8 b8
  refine hK _ _ ?_; clear hK K; try simp only [nrm]
  refine WpT.done (by kernel_rfl) ?_ _
  skip
  have hbM : Below g3 w3 w8 := (hbN.trans (hS.mono (by have := b5.lt; omega))).trans (ht8.below _ (Nat.le_refl _))
  replace q2 : Blk w8 (w.heap.size + 1) 29 (fcC zeroFc) := ht8.blk (q2.below hS) (by omega)
  clear hS q1 hb6 hb7 r6 HCT HBL HRN hrn x0 hbN hbW hbA b5 ht8
  go_wp2_with (first
    | ((with_reducible show wpList _ _ _ (⟨some 52, _, _, _, _, _⟩ :: _) _ _); refine wpList_loadRow rfl rfl rfl b8 aggFc (by rw [sizeFc, fcC_size]) ?_)
    | ((with_reducible show wpList _ _ _ (⟨none, _, _, _, _, _⟩ :: _) _ _); refine wpList_put (vs := fcC ⟨1, k1, k2, k3, k4, k5, 0, BL⟩) rfl rfl rfl rfl q2 (by rw [fcC_size, fcC_size]) (by rw [sizeFc, fcC_size]) (one_fcC _) ?_; intro w9 ht9 b9))
  exact ret_blk rfl rfl rfl b9 aggFc (by rw [sizeFc, fcC_size]) ⟨rfl, (bstep hb0a.out (hbw.trans (hbM.mono (by omega)))).trans (ht9.below _ (by omega))⟩
set_option maxRecDepth 100000 in
set_option maxHeartbeats 4000000 in
theorem faceOf_2 {H : He} (L : Les H) (r : EvR) (w : World) (h : EvOk w r) (hw : EvWf r.e) (hf : EvFew r.e) (hg : GCon w) (hk : r.e.kind = 2) :
    Calls Tryz.prog 12 #[evV r] w (FcIs (faceOf H r.e) w) := by
  have hF : faceOf H r.e = ⟨2, r.e.commit, r.e.day, r.e.id, 0, 0, r.e.frm, (H.bl r.e.nonce r.e.vec r.e.attrs)⟩ := by simp [faceOf, hk]
  rw [hF]
  clear hF
  obtain ⟨wa, hwa, hb0, q1, q2⟩ := fcBox w r
  have HWA := Lib.hid hwa
  clear hwa
  have hcells := Lib.hid (fun W (hb : Below wa.heap.size wa W) => ev_at (q1.below hb))
  have HC : Hid (∀ W, Below wa.heap.size wa W → W.cell? ⟨w.heap.size, 0, none⟩ = some (.int .i64 2) ∧ W.cell? ⟨w.heap.size, 1, none⟩ = some (.int .i64 r.e.commit) ∧ W.cell? ⟨w.heap.size, 2, none⟩ = some (.int .i64 r.e.day) ∧ W.cell? ⟨w.heap.size, 3, none⟩ = some (.int .i64 r.e.id) ∧ W.cell? ⟨w.heap.size, 4, none⟩ = some (.int .i64 r.e.owner) ∧ W.cell? ⟨w.heap.size, 5, none⟩ = some (.int .i64 r.e.til) ∧ W.cell? ⟨w.heap.size, 6, none⟩ = some (.int .i64 r.e.frm)) := Lib.hid (fun W hb => by
    have hc := hcells.out W hb
    have z0 := hc 0
    rw [show (evL r)[0]? = some (.int .i64 r.e.kind) from rfl, hk] at z0
    exact ⟨z0, hc 1, hc 2, hc 3, hc 4, hc 5, hc 6⟩)
  have HCT := Lib.hid (fun W (hb : Below w.heap.size w W) => content_any r W (h.below hb) hw hf)
  have HBL := Lib.hid (fun A k c W (hb : Below w.heap.size w W) (hk : k ≤ 100) (hr : Rd W A k (sv (contentL r.e))) => L.blind r.e.nonce r.e.vec r.e.attrs A k c W hk (content_few hf) hr (hg.below hb))
  have HCL : Hid ((contentL r.e).length = 3) := Lib.hid rfl
  have HRN := Lib.hid (fun W (hb : Below wa.heap.size wa W) => ev_rdN (q1.below hb))
  generalize contentL r.e = CL at *
  generalize H.bl r.e.nonce r.e.vec r.e.attrs = BL at *
  generalize r.e.nonce = NC at *
  clear hk h hw hf hg L hcells
  generalize r.e.commit = k1 at *
  generalize r.e.day = k2 at *
  generalize r.e.id = k3 at *
  generalize r.e.owner = k4 at *
  generalize r.e.til = k5 at *
  generalize r.e.frm = k6 at *
  have hB4 := build_fc4 2 k1 k2 k3
  obtain ⟨c0, c1, c2, c3, c4, c5, c6⟩ := HC.out _ (Below.refl _ _)
  have hlt2 := q2.lt
  unfold FcIs
  go_enter Tryz.func12, Tryz.ntmps12
  go_upto_region 1 with fail
  change Code.wp _ _ _ _ ((w.alloc (.cells (evC r) 27)).alloc (.cells (fcC zeroFc) 29))
  rw [← HWA.out]
  go_upto_region 2 with (first
    | ((with_reducible show wpList _ _ _ (⟨some 12, _, _, _, _, _⟩ :: _) _ _); refine wpList_build4 rfl rfl rfl rfl rfl rfl hB4 ?_)
    | ((with_reducible show wpList _ _ _ (⟨some 3, _, _, _, _, _⟩ :: _) _ _); refine wpList_newRow (z := fcC zeroFc) (vs := fcC ⟨2, k1, k2, k3, 0, 0, 0, 0⟩) rfl rfl rfl rfl (zeroFc_v _) (fun _ => rfl) (fun _ => rfl) (by rw [fcC_size, fcC_size]) (by rw [sizeFc, fcC_size]) (one_fcC _) ?_; intro w3 g3 hg3 b3 hb3 lt3; have hgw : wa.heap.size ≤ g3 := (by omega); have hne3 : w.heap.size + 1 < g3 := (by omega); clear hg3 lt3))
  replace q1 := q1.below hb3
  replace q2 := q2.below hb3
  obtain ⟨d0, d1, d2, d3, d4, d5, d6⟩ := HC.out _ hb3
  have hb0a := Lib.hid hb0
  have hbw : Below wa.heap.size wa w3 := hb3
  clear c0 c1 c2 c3 c4 c5 c6 d1 d2 d3 hb3
  go_upto_region 12 with ((with_reducible show wpList _ _ _ (⟨none, _, _, _, _, _⟩ :: _) _ _); refine wpList_set rfl rfl (by kernel_rfl) rfl rfl rfl b3 (by rw [fcC_size]; omega) (fc_set6 _ _) ?_; intro w5 ht5 b5)
  have hbN : Below g3 w3 w5 := ht5.below _ (Nat.le_refl _)
  replace q1 : Blk w5 w.heap.size 27 (evC r) := (hbN.block _ (by omega)).trans q1
  replace q2 : Blk w5 (w.heap.size + 1) 29 (fcC zeroFc) := (hbN.block _ (by omega)).trans q2
  clear d0 d4 d5 d6 b3 ht5
  have x0 : w5.cell? ⟨w.heap.size, 0, none⟩ = some (.int .i64 2) := (HC.out _ (hbw.trans (hbN.mono (by omega)))).1
  go_upto_region 13 with fail
  have hbA : Below wa.heap.size wa w5 := hbw.trans (hbN.mono (by omega))
  have hS : Below w5.heap.size w5 w5.drew := (Below.refl _ _).drew
  have hbW : Below w.heap.size w w5 := bstep hb0a.out hbA
  have hrn := HRN.out _ hbA
  refine wp_region_T 7 (by kernel_rfl) ?_
  refine WpT.tk 0 (hS) ?_
  try simp only [nrm]
  refine WpT.tk 1 (hS) ?_
  try simp only [nrm]
  refine WpT.tl 2 rfl (yields_bts rfl rfl bytesTy (by kernel_rfl) (by rfl) hrn) (hS) ?_
  try simp only [nrm]
  refine WpT.tl 3 rfl (yields_blk rfl rfl rfl aggEv (by rw [sizeEv, evC_size]) q1) (hS) ?_
  try simp only [nrm]
  refine WpT.on 4 rfl (fun K hK => ?_)
  go_simp; refine (HCT.out _ (bstep hbW hS)).mono ?_; unfold SsIs; rintro e w6 ⟨v6, rfl, o6, hb6⟩; obtain ⟨A6, n6, c6, rfl, hn6, -, -, r6⟩ := o6.formN; replace hS := bstep hS hb6; have hn6' : n6 ≤ 100 := (by have h6 := hn6.out; rw [length_sv, HCL.out] at h6; omega); clear hn6 o6
  refine hK _ _ (hS) ?_; clear hK K; try simp only [nrm]
  refine WpT.on 5 rfl (fun K hK => ?_)
  go_simp; refine (HBL.out A6 n6 c6 _ (bstep hbW hS) hn6' r6).mono ?_; unfold isD; rintro e w7 ⟨rfl, hb7⟩; replace hS := bstep hS hb7
  refine hK _ _ (hS) ?_; clear hK K; try simp only [nrm]
  refine WpT.tk 6 (hS) ?_
  try simp only [nrm]
  refine WpT.ta 7 rfl (fun K hK => ?_)
  refine wp_putAt (vs := bv (dg BL)) rfl (by rfl) (by rfl) (b5.below hS) (by rw [bv_dg_len, fcC_size]; omega) (by rw [sizeDg, bv_dg_len]) (one_bvL _) (fc_blind _ _) ?_; intro w8 ht8 b8
  refine hK _ _ ?_; clear hK K; try simp only [nrm]
  refine WpT.done (by kernel_rfl) ?_ _
  skip
  have hbM : Below g3 w3 w8 := (hbN.trans (hS.mono (by have := b5.lt; omega))).trans (ht8.below _ (Nat.le_refl _))
  replace q2 : Blk w8 (w.heap.size + 1) 29 (fcC zeroFc) := ht8.blk (q2.below hS) (by omega)
  clear hS q1 hb6 hb7 r6 HCT HBL HRN hrn x0 hbN hbW hbA b5 ht8
  go_wp2_with (first
    | ((with_reducible show wpList _ _ _ (⟨some 52, _, _, _, _, _⟩ :: _) _ _); refine wpList_loadRow rfl rfl rfl b8 aggFc (by rw [sizeFc, fcC_size]) ?_)
    | ((with_reducible show wpList _ _ _ (⟨none, _, _, _, _, _⟩ :: _) _ _); refine wpList_put (vs := fcC ⟨2, k1, k2, k3, 0, 0, k6, BL⟩) rfl rfl rfl rfl q2 (by rw [fcC_size, fcC_size]) (by rw [sizeFc, fcC_size]) (one_fcC _) ?_; intro w9 ht9 b9))
  exact ret_blk rfl rfl rfl b9 aggFc (by rw [sizeFc, fcC_size]) ⟨rfl, (bstep hb0a.out (hbw.trans (hbM.mono (by omega)))).trans (ht9.below _ (by omega))⟩
set_option maxRecDepth 100000 in
set_option maxHeartbeats 4000000 in
theorem faceOf_3 {H : He} (L : Les H) (r : EvR) (w : World) (h : EvOk w r) (hw : EvWf r.e) (hf : EvFew r.e) (hg : GCon w) (hk : r.e.kind = 3) :
    Calls Tryz.prog 12 #[evV r] w (FcIs (faceOf H r.e) w) := by
  have hF : faceOf H r.e = ⟨3, r.e.commit, r.e.day, r.e.id, 0, 0, r.e.frm, 0⟩ := by simp [faceOf, hk]
  rw [hF]
  clear hF
  obtain ⟨wa, hwa, hb0, q1, q2⟩ := fcBox w r
  have HWA := Lib.hid hwa
  clear hwa
  have hcells := Lib.hid (fun W (hb : Below wa.heap.size wa W) => ev_at (q1.below hb))
  have HC : Hid (∀ W, Below wa.heap.size wa W → W.cell? ⟨w.heap.size, 0, none⟩ = some (.int .i64 3) ∧ W.cell? ⟨w.heap.size, 1, none⟩ = some (.int .i64 r.e.commit) ∧ W.cell? ⟨w.heap.size, 2, none⟩ = some (.int .i64 r.e.day) ∧ W.cell? ⟨w.heap.size, 3, none⟩ = some (.int .i64 r.e.id) ∧ W.cell? ⟨w.heap.size, 4, none⟩ = some (.int .i64 r.e.owner) ∧ W.cell? ⟨w.heap.size, 5, none⟩ = some (.int .i64 r.e.til) ∧ W.cell? ⟨w.heap.size, 6, none⟩ = some (.int .i64 r.e.frm)) := Lib.hid (fun W hb => by
    have hc := hcells.out W hb
    have z0 := hc 0
    rw [show (evL r)[0]? = some (.int .i64 r.e.kind) from rfl, hk] at z0
    exact ⟨z0, hc 1, hc 2, hc 3, hc 4, hc 5, hc 6⟩)
  clear hk h hw hf hg L hcells
  generalize r.e.commit = k1 at *
  generalize r.e.day = k2 at *
  generalize r.e.id = k3 at *
  generalize r.e.owner = k4 at *
  generalize r.e.til = k5 at *
  generalize r.e.frm = k6 at *
  have hB4 := build_fc4 3 k1 k2 k3
  obtain ⟨c0, c1, c2, c3, c4, c5, c6⟩ := HC.out _ (Below.refl _ _)
  have hlt2 := q2.lt
  unfold FcIs
  go_enter Tryz.func12, Tryz.ntmps12
  go_upto_region 1 with fail
  change Code.wp _ _ _ _ ((w.alloc (.cells (evC r) 27)).alloc (.cells (fcC zeroFc) 29))
  rw [← HWA.out]
  go_upto_region 2 with (first
    | ((with_reducible show wpList _ _ _ (⟨some 12, _, _, _, _, _⟩ :: _) _ _); refine wpList_build4 rfl rfl rfl rfl rfl rfl hB4 ?_)
    | ((with_reducible show wpList _ _ _ (⟨some 3, _, _, _, _, _⟩ :: _) _ _); refine wpList_newRow (z := fcC zeroFc) (vs := fcC ⟨3, k1, k2, k3, 0, 0, 0, 0⟩) rfl rfl rfl rfl (zeroFc_v _) (fun _ => rfl) (fun _ => rfl) (by rw [fcC_size, fcC_size]) (by rw [sizeFc, fcC_size]) (one_fcC _) ?_; intro w3 g3 hg3 b3 hb3 lt3; have hgw : wa.heap.size ≤ g3 := (by omega); have hne3 : w.heap.size + 1 < g3 := (by omega); clear hg3 lt3))
  replace q1 := q1.below hb3
  replace q2 := q2.below hb3
  obtain ⟨d0, d1, d2, d3, d4, d5, d6⟩ := HC.out _ hb3
  have hb0a := Lib.hid hb0
  have hbw : Below wa.heap.size wa w3 := hb3
  clear c0 c1 c2 c3 c4 c5 c6 d1 d2 d3 hb3
  go_upto_region 12 with ((with_reducible show wpList _ _ _ (⟨none, _, _, _, _, _⟩ :: _) _ _); refine wpList_set rfl rfl (by kernel_rfl) rfl rfl rfl b3 (by rw [fcC_size]; omega) (fc_set6 _ _) ?_; intro w5 ht5 b5)
  have hbN : Below g3 w3 w5 := ht5.below _ (Nat.le_refl _)
  replace q1 : Blk w5 w.heap.size 27 (evC r) := (hbN.block _ (by omega)).trans q1
  replace q2 : Blk w5 (w.heap.size + 1) 29 (fcC zeroFc) := (hbN.block _ (by omega)).trans q2
  clear d0 d4 d5 d6 b3 ht5
  have x0 : w5.cell? ⟨w.heap.size, 0, none⟩ = some (.int .i64 3) := (HC.out _ (hbw.trans (hbN.mono (by omega)))).1
  go_wp2_with (first
    | ((with_reducible show wpList _ _ _ (⟨some 52, _, _, _, _, _⟩ :: _) _ _); refine wpList_loadRow rfl rfl rfl b5 aggFc (by rw [sizeFc, fcC_size]) ?_)
    | ((with_reducible show wpList _ _ _ (⟨none, _, _, _, _, _⟩ :: _) _ _); refine wpList_put (vs := fcC ⟨3, k1, k2, k3, 0, 0, k6, 0⟩) rfl rfl rfl rfl q2 (by rw [fcC_size, fcC_size]) (by rw [sizeFc, fcC_size]) (one_fcC _) ?_; intro w9 ht9 b9))
  exact ret_blk rfl rfl rfl b9 aggFc (by rw [sizeFc, fcC_size]) ⟨rfl, (bstep hb0a.out (hbw.trans (hbN.mono (by omega)))).trans (ht9.below _ (by omega))⟩
set_option maxRecDepth 100000 in
set_option maxHeartbeats 4000000 in
theorem faceOf_4 {H : He} (L : Les H) (r : EvR) (w : World) (h : EvOk w r) (hw : EvWf r.e) (hf : EvFew r.e) (hg : GCon w) (hk : r.e.kind = 4) :
    Calls Tryz.prog 12 #[evV r] w (FcIs (faceOf H r.e) w) := by
  have hF : faceOf H r.e = ⟨4, r.e.commit, r.e.day, r.e.id, 0, r.e.til, 0, 0⟩ := by simp [faceOf, hk]
  rw [hF]
  clear hF
  obtain ⟨wa, hwa, hb0, q1, q2⟩ := fcBox w r
  have HWA := Lib.hid hwa
  clear hwa
  have hcells := Lib.hid (fun W (hb : Below wa.heap.size wa W) => ev_at (q1.below hb))
  have HC : Hid (∀ W, Below wa.heap.size wa W → W.cell? ⟨w.heap.size, 0, none⟩ = some (.int .i64 4) ∧ W.cell? ⟨w.heap.size, 1, none⟩ = some (.int .i64 r.e.commit) ∧ W.cell? ⟨w.heap.size, 2, none⟩ = some (.int .i64 r.e.day) ∧ W.cell? ⟨w.heap.size, 3, none⟩ = some (.int .i64 r.e.id) ∧ W.cell? ⟨w.heap.size, 4, none⟩ = some (.int .i64 r.e.owner) ∧ W.cell? ⟨w.heap.size, 5, none⟩ = some (.int .i64 r.e.til) ∧ W.cell? ⟨w.heap.size, 6, none⟩ = some (.int .i64 r.e.frm)) := Lib.hid (fun W hb => by
    have hc := hcells.out W hb
    have z0 := hc 0
    rw [show (evL r)[0]? = some (.int .i64 r.e.kind) from rfl, hk] at z0
    exact ⟨z0, hc 1, hc 2, hc 3, hc 4, hc 5, hc 6⟩)
  clear hk h hw hf hg L hcells
  generalize r.e.commit = k1 at *
  generalize r.e.day = k2 at *
  generalize r.e.id = k3 at *
  generalize r.e.owner = k4 at *
  generalize r.e.til = k5 at *
  generalize r.e.frm = k6 at *
  have hB4 := build_fc4 4 k1 k2 k3
  obtain ⟨c0, c1, c2, c3, c4, c5, c6⟩ := HC.out _ (Below.refl _ _)
  have hlt2 := q2.lt
  unfold FcIs
  go_enter Tryz.func12, Tryz.ntmps12
  go_upto_region 1 with fail
  change Code.wp _ _ _ _ ((w.alloc (.cells (evC r) 27)).alloc (.cells (fcC zeroFc) 29))
  rw [← HWA.out]
  go_upto_region 2 with (first
    | ((with_reducible show wpList _ _ _ (⟨some 12, _, _, _, _, _⟩ :: _) _ _); refine wpList_build4 rfl rfl rfl rfl rfl rfl hB4 ?_)
    | ((with_reducible show wpList _ _ _ (⟨some 3, _, _, _, _, _⟩ :: _) _ _); refine wpList_newRow (z := fcC zeroFc) (vs := fcC ⟨4, k1, k2, k3, 0, 0, 0, 0⟩) rfl rfl rfl rfl (zeroFc_v _) (fun _ => rfl) (fun _ => rfl) (by rw [fcC_size, fcC_size]) (by rw [sizeFc, fcC_size]) (one_fcC _) ?_; intro w3 g3 hg3 b3 hb3 lt3; have hgw : wa.heap.size ≤ g3 := (by omega); have hne3 : w.heap.size + 1 < g3 := (by omega); clear hg3 lt3))
  replace q1 := q1.below hb3
  replace q2 := q2.below hb3
  obtain ⟨d0, d1, d2, d3, d4, d5, d6⟩ := HC.out _ hb3
  have hb0a := Lib.hid hb0
  have hbw : Below wa.heap.size wa w3 := hb3
  clear c0 c1 c2 c3 c4 c5 c6 d1 d2 d3 hb3
  go_upto_region 12 with ((with_reducible show wpList _ _ _ (⟨none, _, _, _, _, _⟩ :: _) _ _); refine wpList_set rfl rfl (by kernel_rfl) rfl rfl rfl b3 (by rw [fcC_size]; omega) (fc_set5 _ _) ?_; intro w5 ht5 b5)
  have hbN : Below g3 w3 w5 := ht5.below _ (Nat.le_refl _)
  replace q1 : Blk w5 w.heap.size 27 (evC r) := (hbN.block _ (by omega)).trans q1
  replace q2 : Blk w5 (w.heap.size + 1) 29 (fcC zeroFc) := (hbN.block _ (by omega)).trans q2
  clear d0 d4 d5 d6 b3 ht5
  have x0 : w5.cell? ⟨w.heap.size, 0, none⟩ = some (.int .i64 4) := (HC.out _ (hbw.trans (hbN.mono (by omega)))).1
  go_wp2_with (first
    | ((with_reducible show wpList _ _ _ (⟨some 52, _, _, _, _, _⟩ :: _) _ _); refine wpList_loadRow rfl rfl rfl b5 aggFc (by rw [sizeFc, fcC_size]) ?_)
    | ((with_reducible show wpList _ _ _ (⟨none, _, _, _, _, _⟩ :: _) _ _); refine wpList_put (vs := fcC ⟨4, k1, k2, k3, 0, k5, 0, 0⟩) rfl rfl rfl rfl q2 (by rw [fcC_size, fcC_size]) (by rw [sizeFc, fcC_size]) (one_fcC _) ?_; intro w9 ht9 b9))
  exact ret_blk rfl rfl rfl b9 aggFc (by rw [sizeFc, fcC_size]) ⟨rfl, (bstep hb0a.out (hbw.trans (hbN.mono (by omega)))).trans (ht9.below _ (by omega))⟩
set_option maxRecDepth 100000 in
set_option maxHeartbeats 4000000 in
theorem faceOf_5 {H : He} (L : Les H) (r : EvR) (w : World) (h : EvOk w r) (hw : EvWf r.e) (hf : EvFew r.e) (hg : GCon w) (hk : r.e.kind = 5) :
    Calls Tryz.prog 12 #[evV r] w (FcIs (faceOf H r.e) w) := by
  have hF : faceOf H r.e = ⟨5, r.e.commit, r.e.day, 0, 0, 0, 0, 0⟩ := by simp [faceOf, hk]
  rw [hF]
  clear hF
  obtain ⟨wa, hwa, hb0, q1, q2⟩ := fcBox w r
  have HWA := Lib.hid hwa
  clear hwa
  have hcells := Lib.hid (fun W (hb : Below wa.heap.size wa W) => ev_at (q1.below hb))
  have HC : Hid (∀ W, Below wa.heap.size wa W → W.cell? ⟨w.heap.size, 0, none⟩ = some (.int .i64 5) ∧ W.cell? ⟨w.heap.size, 1, none⟩ = some (.int .i64 r.e.commit) ∧ W.cell? ⟨w.heap.size, 2, none⟩ = some (.int .i64 r.e.day) ∧ W.cell? ⟨w.heap.size, 3, none⟩ = some (.int .i64 r.e.id) ∧ W.cell? ⟨w.heap.size, 4, none⟩ = some (.int .i64 r.e.owner) ∧ W.cell? ⟨w.heap.size, 5, none⟩ = some (.int .i64 r.e.til) ∧ W.cell? ⟨w.heap.size, 6, none⟩ = some (.int .i64 r.e.frm)) := Lib.hid (fun W hb => by
    have hc := hcells.out W hb
    have z0 := hc 0
    rw [show (evL r)[0]? = some (.int .i64 r.e.kind) from rfl, hk] at z0
    exact ⟨z0, hc 1, hc 2, hc 3, hc 4, hc 5, hc 6⟩)
  clear hk h hw hf hg L hcells
  generalize r.e.commit = k1 at *
  generalize r.e.day = k2 at *
  generalize r.e.id = k3 at *
  generalize r.e.owner = k4 at *
  generalize r.e.til = k5 at *
  generalize r.e.frm = k6 at *
  have hB4 := build_fc4 5 k1 k2 k3
  obtain ⟨c0, c1, c2, c3, c4, c5, c6⟩ := HC.out _ (Below.refl _ _)
  have hlt2 := q2.lt
  unfold FcIs
  go_enter Tryz.func12, Tryz.ntmps12
  go_upto_region 1 with fail
  change Code.wp _ _ _ _ ((w.alloc (.cells (evC r) 27)).alloc (.cells (fcC zeroFc) 29))
  rw [← HWA.out]
  go_upto_region 2 with (first
    | ((with_reducible show wpList _ _ _ (⟨some 12, _, _, _, _, _⟩ :: _) _ _); refine wpList_build4 rfl rfl rfl rfl rfl rfl hB4 ?_)
    | ((with_reducible show wpList _ _ _ (⟨some 3, _, _, _, _, _⟩ :: _) _ _); refine wpList_newRow (z := fcC zeroFc) (vs := fcC ⟨5, k1, k2, k3, 0, 0, 0, 0⟩) rfl rfl rfl rfl (zeroFc_v _) (fun _ => rfl) (fun _ => rfl) (by rw [fcC_size, fcC_size]) (by rw [sizeFc, fcC_size]) (one_fcC _) ?_; intro w3 g3 hg3 b3 hb3 lt3; have hgw : wa.heap.size ≤ g3 := (by omega); have hne3 : w.heap.size + 1 < g3 := (by omega); clear hg3 lt3))
  replace q1 := q1.below hb3
  replace q2 := q2.below hb3
  obtain ⟨d0, d1, d2, d3, d4, d5, d6⟩ := HC.out _ hb3
  have hb0a := Lib.hid hb0
  have hbw : Below wa.heap.size wa w3 := hb3
  clear c0 c1 c2 c3 c4 c5 c6 d1 d2 d3 hb3
  go_upto_region 12 with ((with_reducible show wpList _ _ _ (⟨none, _, _, _, _, _⟩ :: _) _ _); refine wpList_set rfl rfl (by kernel_rfl) rfl rfl rfl b3 (by rw [fcC_size]; omega) (fc_set3 _ _) ?_; intro w5 ht5 b5)
  have hbN : Below g3 w3 w5 := ht5.below _ (Nat.le_refl _)
  replace q1 : Blk w5 w.heap.size 27 (evC r) := (hbN.block _ (by omega)).trans q1
  replace q2 : Blk w5 (w.heap.size + 1) 29 (fcC zeroFc) := (hbN.block _ (by omega)).trans q2
  clear d0 d4 d5 d6 b3 ht5
  have x0 : w5.cell? ⟨w.heap.size, 0, none⟩ = some (.int .i64 5) := (HC.out _ (hbw.trans (hbN.mono (by omega)))).1
  go_wp2_with (first
    | ((with_reducible show wpList _ _ _ (⟨some 52, _, _, _, _, _⟩ :: _) _ _); refine wpList_loadRow rfl rfl rfl b5 aggFc (by rw [sizeFc, fcC_size]) ?_)
    | ((with_reducible show wpList _ _ _ (⟨none, _, _, _, _, _⟩ :: _) _ _); refine wpList_put (vs := fcC ⟨5, k1, k2, 0, 0, 0, 0, 0⟩) rfl rfl rfl rfl q2 (by rw [fcC_size, fcC_size]) (by rw [sizeFc, fcC_size]) (one_fcC _) ?_; intro w9 ht9 b9))
  exact ret_blk rfl rfl rfl b9 aggFc (by rw [sizeFc, fcC_size]) ⟨rfl, (bstep hb0a.out (hbw.trans (hbN.mono (by omega)))).trans (ht9.below _ (by omega))⟩
set_option maxRecDepth 100000 in
set_option maxHeartbeats 4000000 in
theorem faceOf_0 {H : He} (L : Les H) (r : EvR) (w : World) (h : EvOk w r) (hw : EvWf r.e) (hf : EvFew r.e) (hg : GCon w) (hk : r.e.kind ≠ 1 ∧ r.e.kind ≠ 2 ∧ r.e.kind ≠ 3 ∧ r.e.kind ≠ 4 ∧ r.e.kind ≠ 5) :
    Calls Tryz.prog 12 #[evV r] w (FcIs (faceOf H r.e) w) := by
  have hF : faceOf H r.e = ⟨r.e.kind, r.e.commit, r.e.day, r.e.id, 0, 0, 0, 0⟩ := by simp [faceOf, hk]
  rw [hF]
  clear hF
  obtain ⟨wa, hwa, hb0, q1, q2⟩ := fcBox w r
  have HWA := Lib.hid hwa
  clear hwa
  have hcells := Lib.hid (fun W (hb : Below wa.heap.size wa W) => ev_at (q1.below hb))
  have HC : Hid (∀ W, Below wa.heap.size wa W → W.cell? ⟨w.heap.size, 0, none⟩ = some (.int .i64 r.e.kind) ∧ W.cell? ⟨w.heap.size, 1, none⟩ = some (.int .i64 r.e.commit) ∧ W.cell? ⟨w.heap.size, 2, none⟩ = some (.int .i64 r.e.day) ∧ W.cell? ⟨w.heap.size, 3, none⟩ = some (.int .i64 r.e.id) ∧ W.cell? ⟨w.heap.size, 4, none⟩ = some (.int .i64 r.e.owner) ∧ W.cell? ⟨w.heap.size, 5, none⟩ = some (.int .i64 r.e.til) ∧ W.cell? ⟨w.heap.size, 6, none⟩ = some (.int .i64 r.e.frm)) := Lib.hid (fun W hb => by
    have hc := hcells.out W hb
    have z0 := hc 0
    skip
    exact ⟨z0, hc 1, hc 2, hc 3, hc 4, hc 5, hc 6⟩)
  have e1 : (r.e.kind == 1) = false := by simp [hk.1]
  have e2 : (r.e.kind == 2) = false := by simp [hk.2.1]
  have e3 : (r.e.kind == 3) = false := by simp [hk.2.2.1]
  have e4 : (r.e.kind == 4) = false := by simp [hk.2.2.2.1]
  have e5 : (r.e.kind == 5) = false := by simp [hk.2.2.2.2]
  clear hk h hw hf hg L hcells
  generalize r.e.kind = k0 at *
  generalize r.e.commit = k1 at *
  generalize r.e.day = k2 at *
  generalize r.e.id = k3 at *
  generalize r.e.owner = k4 at *
  generalize r.e.til = k5 at *
  generalize r.e.frm = k6 at *
  have hB4 := build_fc4 k0 k1 k2 k3
  obtain ⟨c0, c1, c2, c3, c4, c5, c6⟩ := HC.out _ (Below.refl _ _)
  have hlt2 := q2.lt
  unfold FcIs
  go_enter Tryz.func12, Tryz.ntmps12
  go_upto_region 1 with fail
  change Code.wp _ _ _ _ ((w.alloc (.cells (evC r) 27)).alloc (.cells (fcC zeroFc) 29))
  rw [← HWA.out]
  go_upto_region 2 with (first
    | ((with_reducible show wpList _ _ _ (⟨some 12, _, _, _, _, _⟩ :: _) _ _); refine wpList_build4 rfl rfl rfl rfl rfl rfl hB4 ?_)
    | ((with_reducible show wpList _ _ _ (⟨some 3, _, _, _, _, _⟩ :: _) _ _); refine wpList_newRow (z := fcC zeroFc) (vs := fcC ⟨k0, k1, k2, k3, 0, 0, 0, 0⟩) rfl rfl rfl rfl (zeroFc_v _) (fun _ => rfl) (fun _ => rfl) (by rw [fcC_size, fcC_size]) (by rw [sizeFc, fcC_size]) (one_fcC _) ?_; intro w3 g3 hg3 b3 hb3 lt3; have hgw : wa.heap.size ≤ g3 := (by omega); have hne3 : w.heap.size + 1 < g3 := (by omega); clear hg3 lt3))
  replace q1 := q1.below hb3
  replace q2 := q2.below hb3
  obtain ⟨d0, d1, d2, d3, d4, d5, d6⟩ := HC.out _ hb3
  have hb0a := Lib.hid hb0
  have hbw : Below wa.heap.size wa w3 := hb3
  clear c0 c1 c2 c3 c4 c5 c6 d1 d2 d3 hb3
  go_upto_region 12 with fail
  have hbN : Below g3 w3 w3 := Below.refl _ _
  clear d4 d5 d6
  have x0 : w3.cell? ⟨w.heap.size, 0, none⟩ = some (.int .i64 k0) := (HC.out _ (hbw.trans (hbN.mono (by omega)))).1
  go_wp2_with (first
    | ((with_reducible show wpList _ _ _ (⟨some 52, _, _, _, _, _⟩ :: _) _ _); refine wpList_loadRow rfl rfl rfl b3 aggFc (by rw [sizeFc, fcC_size]) ?_)
    | ((with_reducible show wpList _ _ _ (⟨none, _, _, _, _, _⟩ :: _) _ _); refine wpList_put (vs := fcC ⟨k0, k1, k2, k3, 0, 0, 0, 0⟩) rfl rfl rfl rfl q2 (by rw [fcC_size, fcC_size]) (by rw [sizeFc, fcC_size]) (one_fcC _) ?_; intro w9 ht9 b9))
  exact ret_blk rfl rfl rfl b9 aggFc (by rw [sizeFc, fcC_size]) ⟨rfl, (bstep hb0a.out (hbw.trans (hbN.mono (by omega)))).trans (ht9.below _ (by omega))⟩
theorem faceOf_any {H : He} (L : Les H) (r : EvR) (w : World) (h : EvOk w r) (hw : EvWf r.e) (hf : EvFew r.e) (hg : GCon w) :
    Calls Tryz.prog 12 #[evV r] w (FcIs (faceOf H r.e) w) := by
  by_cases h1 : r.e.kind = 1
  · exact faceOf_1 L r w h hw hf hg h1
  by_cases h2 : r.e.kind = 2
  · exact faceOf_2 L r w h hw hf hg h2
  by_cases h3 : r.e.kind = 3
  · exact faceOf_3 L r w h hw hf hg h3
  by_cases h4 : r.e.kind = 4
  · exact faceOf_4 L r w h hw hf hg h4
  by_cases h5 : r.e.kind = 5
  · exact faceOf_5 L r w h hw hf hg h5
  exact faceOf_0 L r w h hw hf hg ⟨h1, h2, h3, h4, h5⟩
end Go.Proofs.YtcapckngikekpaaGreatDoor
