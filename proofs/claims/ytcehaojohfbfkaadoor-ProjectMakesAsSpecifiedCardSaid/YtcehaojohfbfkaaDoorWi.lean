/-
  What the encodings of integers and of lists of integers are, in the program and in the reference. Conditions: 64 bits.
-/
import Derived.Test.YtcehaojohfbfkaaDoorOf
import Derived.Test.YtcehaojohfbfkaaDoorSub
namespace Go.Proofs.YtcehaojohfbfkaaDoor
set_option linter.unusedSimpArgs false
set_option linter.unusedVariables false
open Go.RowKit
/-- The sign goes to the lowest bit. -/
def zz (n : Int) : Nat := if 0 ≤ n then (2 * n).toNat else (2 * (-1 - n) + 1).toNat
theorem zz_lt (n : Int) (h1 : -9223372036854775808 ≤ n) (h2 : n ≤ 9223372036854775807) : zz n < 18446744073709551616 := by unfold zz; split <;> omega
theorem zz_nat (m : Nat) : zz (m : Int) = 2 * m := by unfold zz; rw [if_pos (by omega)]; omega
def encI (n : Int) : List UInt8 := vint 9 (zz n)
def encInts (l : List Int) : List UInt8 := encI l.length ++ l.flatMap encI
theorem xor_ones (a : Nat) (h : a < 18446744073709551616) : bits .xor .u64 (a : Int) 18446744073709551615 = ((18446744073709551615 - a : Nat) : Int) := by
  rw [show (18446744073709551615 : Int) = ((18446744073709551615 : Nat) : Int) from rfl, u64_xor_bv a _ h (by omega)]
  congr 1
  have := congrArg BitVec.toNat (BitVec.xor_allOnes (x := BitVec.ofNat 64 a))
  rw [BitVec.toNat_xor, BitVec.toNat_not, BitVec.toNat_ofNat, BitVec.toNat_allOnes, Nat.mod_eq_of_lt (by omega)] at this
  exact this
theorem zig_pos (n : Int) (h1 : 0 ≤ n) (h2 : n ≤ 9223372036854775807) : bits .xor .u64 (n * 2) (n / 9223372036854775808) = ((zz n : Nat) : Int) := by
  rw [show n / 9223372036854775808 = 0 by omega]
  obtain ⟨m, rfl⟩ : ∃ m : Nat, n = m := ⟨n.toNat, by omega⟩
  have := u64_xor_bv (2 * m) 0 (by omega) (by omega)
  rw [show ((m : Int) * 2) = ((2 * m : Nat) : Int) by omega, show (0 : Int) = ((0 : Nat) : Int) from rfl, this, zz_nat]
  simp
theorem zig_neg (n : Int) (h1 : n < 0) (h2 : -9223372036854775808 ≤ n) : bits .xor .u64 (IntKind.u64.wrap (IntKind.u64.wrap n * 2)) (IntKind.u64.wrap (n / 9223372036854775808)) = ((zz n : Nat) : Int) := by
  rw [show n / 9223372036854775808 = -1 by omega, IntKind.wrap_u64, IntKind.wrap_u64, IntKind.wrap_u64]
  rw [show (-1 : Int) % 18446744073709551616 = 18446744073709551615 by decide]
  obtain ⟨m, hm⟩ : ∃ m : Nat, (m : Int) = n % 18446744073709551616 * 2 % 18446744073709551616 := ⟨(n % 18446744073709551616 * 2 % 18446744073709551616).toNat, by omega⟩
  rw [← hm, xor_ones m (by omega)]
  congr 1
  unfold zz
  rw [if_neg (by omega)]
  omega
set_option maxHeartbeats 1000000 in
theorem wireIntZ_any (n : Int) (w : World) (h1 : -9223372036854775808 ≤ n) (h2 : n ≤ 9223372036854775807) :
    Calls Tryd.prog 64 #[.int .i64 n] w fun e w' => ∃ v, e = .returned v ∧ Own w' w.heap.size 5 v (bv (encI n)) ∧ Below w.heap.size w w' := by
  have HZ := Lib.hid (zz_lt n h1 h2)
  by_cases hs : 0 ≤ n
  · have hx := zig_pos n hs h2
    go_enter Tryd.func64, Tryd.ntmps64
    go_wp2_with fail
    go_loopw [3, 4] (fun x v wr => ∃ (f z : Nat) (acc : List UInt8), x = .int .u64 z ∧ z < 128 ^ (f + 1) ∧ f + acc.length ≤ 9 ∧ acc ++ vint f z = encI n ∧ Own wr w.heap.size 5 v (bv acc) ∧ Below w.heap.size w wr) (fun x _ _ => (intOf x).toNat)
    case atStart => exact ⟨9, zz n, [], rfl, by have := HZ.out; omega, by simp, by simp [encI], Own.nil _ _ _, Below.refl _ _⟩
    case round =>
      obtain ⟨f, z, acc, rfl, hzf, hfa, hacc, hown, hb⟩ := hrel
      have hz := hb.size
      have hzl : z < 1180591620717411303424 := by
        have : 128 ^ (f + 1) ≤ 128 ^ 10 := Nat.pow_le_pow_right (by omega) (by omega)
        omega
      have HA := Lib.hid hacc
      clear hacc
      by_cases hlt : z < 128
      · have hv := vint_small f z hlt
        have HV := Lib.hid hv
        have hz2 : ¬ (127 : Int) < z := by omega
        have hd : decide ((127 : Int) < (z : Int)) = false := by simpa using hz2
        clear hv hzf hzl
        go_wp2_with (at_builtin; refine wpList_app rfl rfl elemBytes rfl (hown.alloc _) rfl (Rd.new1 _ _ _) (one1 rfl) (by rw [length_bv]; omega) (by simp; omega) ?_; intro v' w' hown' hg' hb' _)
        go_ret
        refine ⟨_, rfl, ?_, (hb.alloc hz _).trans hb'⟩
        rw [← HA.out, HV.out, bv_append, show bv [UInt8.ofNat z] = [.int .u8 (z : Nat)] by simp [bv, UInt8.toNat_ofNat']; omega]
        exact hown'
      · obtain ⟨f, rfl⟩ : ∃ g, f = g + 1 := by
          cases f with
          | zero => exfalso; simp at hzf; omega
          | succ f => exact ⟨f, rfl⟩
        have hv := vint_big f z hlt
        have HV := Lib.hid hv
        have hd : decide ((127 : Int) < (z : Int)) = true := by simp; omega
        have ho := or128_int z
        have hq : z / 128 < 128 ^ (f + 1) := by
          rw [Nat.div_lt_iff_lt_mul (by omega)]; rw [Nat.pow_succ] at hzf; exact hzf
        have HQ := Lib.hid hq
        clear hv hzf hq
        go_wp2_with (at_builtin; refine wpList_app rfl rfl elemBytes rfl (hown.alloc _) rfl (Rd.new1 _ _ _) (one1 rfl) (by rw [length_bv]; omega) (by simp; omega) ?_; intro v' w' hown' hg' hb' _)
        refine ⟨⟨f, z / 128, acc ++ [UInt8.ofNat (z % 128 + 128)], by simp, HQ.out, by simp; omega, by rw [← HA.out, HV.out, List.append_assoc]; rfl, ?_, (hb.alloc hz _).trans hb'⟩, ?_⟩
        · rw [bv_append, show bv [UInt8.ofNat (z % 128 + 128)] = [.int .u8 ((z % 128 + 128 : Nat) : Int)] by simp [bv, UInt8.toNat_ofNat']; omega]
          exact hown'
        · simp [intOf]; omega
  · have hx := zig_neg n (by omega) h1
    go_enter Tryd.func64, Tryd.ntmps64
    go_wp2_with fail
    go_loopw [3, 4] (fun x v wr => ∃ (f z : Nat) (acc : List UInt8), x = .int .u64 z ∧ z < 128 ^ (f + 1) ∧ f + acc.length ≤ 9 ∧ acc ++ vint f z = encI n ∧ Own wr w.heap.size 5 v (bv acc) ∧ Below w.heap.size w wr) (fun x _ _ => (intOf x).toNat)
    case atStart => exact ⟨9, zz n, [], rfl, by have := HZ.out; omega, by simp, by simp [encI], Own.nil _ _ _, Below.refl _ _⟩
    case round =>
      obtain ⟨f, z, acc, rfl, hzf, hfa, hacc, hown, hb⟩ := hrel
      have hz := hb.size
      have hzl : z < 1180591620717411303424 := by
        have : 128 ^ (f + 1) ≤ 128 ^ 10 := Nat.pow_le_pow_right (by omega) (by omega)
        omega
      have HA := Lib.hid hacc
      clear hacc
      by_cases hlt : z < 128
      · have hv := vint_small f z hlt
        have HV := Lib.hid hv
        have hz2 : ¬ (127 : Int) < z := by omega
        have hd : decide ((127 : Int) < (z : Int)) = false := by simpa using hz2
        clear hv hzf hzl
        go_wp2_with (at_builtin; refine wpList_app rfl rfl elemBytes rfl (hown.alloc _) rfl (Rd.new1 _ _ _) (one1 rfl) (by rw [length_bv]; omega) (by simp; omega) ?_; intro v' w' hown' hg' hb' _)
        go_ret
        refine ⟨_, rfl, ?_, (hb.alloc hz _).trans hb'⟩
        rw [← HA.out, HV.out, bv_append, show bv [UInt8.ofNat z] = [.int .u8 (z : Nat)] by simp [bv, UInt8.toNat_ofNat']; omega]
        exact hown'
      · obtain ⟨f, rfl⟩ : ∃ g, f = g + 1 := by
          cases f with
          | zero => exfalso; simp at hzf; omega
          | succ f => exact ⟨f, rfl⟩
        have hv := vint_big f z hlt
        have HV := Lib.hid hv
        have hd : decide ((127 : Int) < (z : Int)) = true := by simp; omega
        have ho := or128_int z
        have hq : z / 128 < 128 ^ (f + 1) := by
          rw [Nat.div_lt_iff_lt_mul (by omega)]; rw [Nat.pow_succ] at hzf; exact hzf
        have HQ := Lib.hid hq
        clear hv hzf hq
        go_wp2_with (at_builtin; refine wpList_app rfl rfl elemBytes rfl (hown.alloc _) rfl (Rd.new1 _ _ _) (one1 rfl) (by rw [length_bv]; omega) (by simp; omega) ?_; intro v' w' hown' hg' hb' _)
        refine ⟨⟨f, z / 128, acc ++ [UInt8.ofNat (z % 128 + 128)], by simp, HQ.out, by simp; omega, by rw [← HA.out, HV.out, List.append_assoc]; rfl, ?_, (hb.alloc hz _).trans hb'⟩, ?_⟩
        · rw [bv_append, show bv [UInt8.ofNat (z % 128 + 128)] = [.int .u8 ((z % 128 + 128 : Nat) : Int)] by simp [bv, UInt8.toNat_ofNat']; omega]
          exact hown'
        · simp [intOf]; omega
theorem zz_ref_pos (n : Int) (h1 : 0 ≤ n) (h2 : n ≤ 9223372036854775807) : n * 2 = ((zz n : Nat) : Int) := by unfold zz; rw [if_pos h1]; omega
theorem zz_ref_neg (n : Int) (h1 : n < 0) (h2 : -9223372036854775808 ≤ n) : (-1 - n) * 2 + 1 = ((zz n : Nat) : Int) := by unfold zz; rw [if_neg (by omega)]; omega
set_option maxHeartbeats 1000000 in
theorem refIntZ_any (n : Int) (w : World) (h1 : -9223372036854775808 ≤ n) (h2 : n ≤ 9223372036854775807) :
    Calls Tryd.prog 82 #[.int .i64 n] w fun e w' => ∃ v, e = .returned v ∧ Own w' w.heap.size 5 v (bv (encI n)) ∧ Below w.heap.size w w' := by
  have HZ := Lib.hid (zz_lt n h1 h2)
  by_cases hs : n < 0
  · have hx := zz_ref_neg n hs h1
    go_enter Tryd.func82, Tryd.ntmps82
    go_wp2_with fail
    go_loopw [3, 4] (fun x v wr => ∃ (f z : Nat) (acc : List UInt8), x = .int .u64 z ∧ z < 128 ^ (f + 1) ∧ f + acc.length ≤ 9 ∧ acc ++ vint f z = encI n ∧ Own wr w.heap.size 5 v (bv acc) ∧ Below w.heap.size w wr) (fun x _ _ => (intOf x).toNat)
    case atStart => exact ⟨9, zz n, [], rfl, by have := HZ.out; omega, by simp, by simp [encI], Own.nil _ _ _, Below.refl _ _⟩
    case round =>
      obtain ⟨f, z, acc, rfl, hzf, hfa, hacc, hown, hb⟩ := hrel
      have hz := hb.size
      have hzl : z < 1180591620717411303424 := by
        have : 128 ^ (f + 1) ≤ 128 ^ 10 := Nat.pow_le_pow_right (by omega) (by omega)
        omega
      have HA := Lib.hid hacc
      clear hacc
      by_cases hlt : z < 128
      · have hv := vint_small f z hlt
        have HV := Lib.hid hv
        have hd : decide ((128 : Int) ≤ (z : Int)) = false := by simp; omega
        clear hv hzf hzl
        go_wp2_with (at_builtin; refine wpList_app rfl rfl elemBytes rfl (hown.alloc _) rfl (Rd.new1 _ _ _) (one1 rfl) (by rw [length_bv]; omega) (by simp; omega) ?_; intro v' w' hown' hg' hb' _)
        go_ret
        refine ⟨_, rfl, ?_, (hb.alloc hz _).trans hb'⟩
        rw [← HA.out, HV.out, bv_append, show bv [UInt8.ofNat z] = [.int .u8 (z : Nat)] by simp [bv, UInt8.toNat_ofNat']; omega]
        exact hown'
      · obtain ⟨f, rfl⟩ : ∃ g, f = g + 1 := by
          cases f with
          | zero => exfalso; simp at hzf; omega
          | succ f => exact ⟨f, rfl⟩
        have hv := vint_big f z hlt
        have HV := Lib.hid hv
        have hd : decide ((128 : Int) ≤ (z : Int)) = true := by simp; omega
        have hq : z / 128 < 128 ^ (f + 1) := by
          rw [Nat.div_lt_iff_lt_mul (by omega)]; rw [Nat.pow_succ] at hzf; exact hzf
        have HQ := Lib.hid hq
        clear hv hzf hq
        go_wp2_with (at_builtin; refine wpList_app rfl rfl elemBytes rfl (hown.alloc _) rfl (Rd.new1 _ _ _) (one1 rfl) (by rw [length_bv]; omega) (by simp; omega) ?_; intro v' w' hown' hg' hb' _)
        refine ⟨⟨f, z / 128, acc ++ [UInt8.ofNat (z % 128 + 128)], by simp, HQ.out, by simp; omega, by rw [← HA.out, HV.out, List.append_assoc]; rfl, ?_, (hb.alloc hz _).trans hb'⟩, ?_⟩
        · rw [bv_append, show bv [UInt8.ofNat (z % 128 + 128)] = [.int .u8 ((z : Int) % 128 + 128)] by simp [bv, UInt8.toNat_ofNat']; omega]
          exact hown'
        · simp [intOf]; omega
  · have hx := zz_ref_pos n (by omega) h2
    go_enter Tryd.func82, Tryd.ntmps82
    go_wp2_with fail
    go_loopw [3, 4] (fun x v wr => ∃ (f z : Nat) (acc : List UInt8), x = .int .u64 z ∧ z < 128 ^ (f + 1) ∧ f + acc.length ≤ 9 ∧ acc ++ vint f z = encI n ∧ Own wr w.heap.size 5 v (bv acc) ∧ Below w.heap.size w wr) (fun x _ _ => (intOf x).toNat)
    case atStart => exact ⟨9, zz n, [], rfl, by have := HZ.out; omega, by simp, by simp [encI], Own.nil _ _ _, Below.refl _ _⟩
    case round =>
      obtain ⟨f, z, acc, rfl, hzf, hfa, hacc, hown, hb⟩ := hrel
      have hz := hb.size
      have hzl : z < 1180591620717411303424 := by
        have : 128 ^ (f + 1) ≤ 128 ^ 10 := Nat.pow_le_pow_right (by omega) (by omega)
        omega
      have HA := Lib.hid hacc
      clear hacc
      by_cases hlt : z < 128
      · have hv := vint_small f z hlt
        have HV := Lib.hid hv
        have hd : decide ((128 : Int) ≤ (z : Int)) = false := by simp; omega
        clear hv hzf hzl
        go_wp2_with (at_builtin; refine wpList_app rfl rfl elemBytes rfl (hown.alloc _) rfl (Rd.new1 _ _ _) (one1 rfl) (by rw [length_bv]; omega) (by simp; omega) ?_; intro v' w' hown' hg' hb' _)
        go_ret
        refine ⟨_, rfl, ?_, (hb.alloc hz _).trans hb'⟩
        rw [← HA.out, HV.out, bv_append, show bv [UInt8.ofNat z] = [.int .u8 (z : Nat)] by simp [bv, UInt8.toNat_ofNat']; omega]
        exact hown'
      · obtain ⟨f, rfl⟩ : ∃ g, f = g + 1 := by
          cases f with
          | zero => exfalso; simp at hzf; omega
          | succ f => exact ⟨f, rfl⟩
        have hv := vint_big f z hlt
        have HV := Lib.hid hv
        have hd : decide ((128 : Int) ≤ (z : Int)) = true := by simp; omega
        have hq : z / 128 < 128 ^ (f + 1) := by
          rw [Nat.div_lt_iff_lt_mul (by omega)]; rw [Nat.pow_succ] at hzf; exact hzf
        have HQ := Lib.hid hq
        clear hv hzf hq
        go_wp2_with (at_builtin; refine wpList_app rfl rfl elemBytes rfl (hown.alloc _) rfl (Rd.new1 _ _ _) (one1 rfl) (by rw [length_bv]; omega) (by simp; omega) ?_; intro v' w' hown' hg' hb' _)
        refine ⟨⟨f, z / 128, acc ++ [UInt8.ofNat (z % 128 + 128)], by simp, HQ.out, by simp; omega, by rw [← HA.out, HV.out, List.append_assoc]; rfl, ?_, (hb.alloc hz _).trans hb'⟩, ?_⟩
        · rw [bv_append, show bv [UInt8.ofNat (z % 128 + 128)] = [.int .u8 ((z : Int) % 128 + 128)] by simp [bv, UInt8.toNat_ofNat']; omega]
          exact hown'
        · simp [intOf]; omega
theorem length_encI (n : Int) : (encI n).length ≤ 10 := length_vint 9 (zz n)
theorem length_flatI : ∀ l : List Int, (l.flatMap encI).length ≤ l.length * 10
  | [] => by simp
  | x :: l => by have := length_flatI l; have := length_encI x; simp only [List.flatMap_cons, List.length_append, List.length_cons]; omega
def fits64 (l : List Int) : Prop := ∀ x ∈ l, -9223372036854775808 ≤ x ∧ x ≤ 9223372036854775807
set_option maxHeartbeats 1000000 in
theorem wireList_any (A : Option Addr) (n c : Nat) (l : List Int) (w : World) (hr : Rd w A n (iv l)) (hn : n ≤ 1000) (hf : fits64 l) :
    Calls Tryd.prog 63 #[.slice A n c, .func (.func 64) #[] #[]] w fun e w' => ∃ v, e = .returned v ∧ Own w' w.heap.size 5 v (bv (encInts l)) ∧ Below w.heap.size w w' := by
  have HL := Lib.hid (show l.length = n by have := hr.len; simpa using this)
  have HF := Lib.hid hf
  clear hf
  have HE := Lib.hid (show encInts l = encI n ++ l.flatMap encI by unfold encInts; rw [HL.out])
  go_enter Tryd.func63, Tryd.ntmps63
  go_wp2_with fail
  refine (wireIntZ_any n _ (by omega) (by omega)).mono ?_
  rintro e w1 ⟨v1, rfl, hown1, hb1⟩
  go_wp2_with fail
  go_loopw [5, 7, 13] (fun v _ j wr => ∃ k : Nat, k ≤ n ∧ j = .int .i64 k ∧ Below w.heap.size w wr ∧ Own wr w.heap.size 5 v (bv (encI n ++ (l.take k).flatMap encI))) (fun _ _ j _ => n - (intOf j).toNat)
  case atStart => exact ⟨0, Nat.zero_le _, rfl, hb1, by simpa using hown1⟩
  case round =>
    clear hown1
    obtain ⟨k, hk, rfl, hbw, hown⟩ := hrel
    by_cases hlt : k < n
    · obtain ⟨ad, rfl, hc⟩ := (hr.below hbw).int hlt HL.out
      have HT := Lib.hid (List.take_succ_eq_append_getElem (show k < l.length by have := HL.out; omega))
      have HX := Lib.hid (HF.out _ (List.getElem_mem (show k < l.length by have := HL.out; omega)))
      generalize l[k]'(by have := HL.out; omega) = x at *
      have HS := Lib.hid (show bv (encI n ++ (l.take (k + 1)).flatMap encI) = bv (encI n ++ (l.take k).flatMap encI) ++ bv (encI x) by rw [HT.out, ← bv_append]; simp)
      have HN : Hid ((encI n ++ (l.take k).flatMap encI).length ≤ 20000) := Lib.hid (by
        have := length_encI n
        have := length_flatI (l.take k)
        have := List.length_take_le k l
        simp only [List.length_append]; omega)
      go_wp2_with fail
      refine (wireIntZ_any x _ HX.out.1 HX.out.2).mono ?_
      rintro e w2 ⟨v2, rfl, hown2, hb2⟩
      replace hown := hown.below hb2
      have hbw2 := bstep hbw hb2
      obtain ⟨A2, n2, c2, rfl, hn2, hn2c, hc2, hr2⟩ := hown2.formN
      have HN2 := Lib.hid (show n2 ≤ 10 by have := hn2.out; have := length_encI x; simp at *; omega)
      clear hn2 hown2 hc
      go_wp2_with (at_builtin; refine wpList_app rfl rfl elemBytes rfl hown rfl hr2 (oneCell_bv _) (by rw [length_bv]; have := HN.out; have := HN2.out; omega) hbw2.size ?_; intro v' w' hown3 _ hb3 _)
      rw [← HS.out] at hown3
      exact ⟨⟨k + 1, by omega, by go_num, hbw2.trans hb3, hown3⟩, by simp [intOf]; omega⟩
    · obtain rfl : k = n := by omega
      have HT := Lib.hid (show l.take k = l by rw [List.take_of_length_le (by have := HL.out; omega)])
      rw [HT.out, ← HE.out] at hown
      go_wp2
      go_ret
      exact ⟨_, rfl, hown, hbw⟩
theorem wireInts_any (A : Option Addr) (n c : Nat) (l : List Int) (w : World) (hr : Rd w A n (iv l)) (hn : n ≤ 1000) (hf : fits64 l) :
    Calls Tryd.prog 43 #[.slice A n c] w fun e w' => ∃ v, e = .returned v ∧ Own w' w.heap.size 5 v (bv (encInts l)) ∧ Below w.heap.size w w' := by
  go_enter Tryd.func43, Tryd.ntmps43
  go_wp2_with fail
  refine (wireList_any A n c l _ hr hn hf).mono ?_
  rintro e w1 ⟨v1, rfl, hown1, hb1⟩
  go_wp2_with fail
  go_ret
  exact ⟨_, rfl, hown1, hb1⟩
set_option maxHeartbeats 1000000 in
theorem refInts_any (A : Option Addr) (n c : Nat) (l : List Int) (w : World) (hr : Rd w A n (iv l)) (hn : n ≤ 1000) (hf : fits64 l) :
    Calls Tryd.prog 76 #[.slice A n c] w fun e w' => ∃ v, e = .returned v ∧ Own w' w.heap.size 5 v (bv (encInts l)) ∧ Below w.heap.size w w' := by
  have HL := Lib.hid (show l.length = n by have := hr.len; simpa using this)
  have HF := Lib.hid hf
  clear hf
  have HE := Lib.hid (show encInts l = encI n ++ l.flatMap encI by unfold encInts; rw [HL.out])
  go_enter Tryd.func76, Tryd.ntmps76
  go_wp2_with fail
  refine (refIntZ_any n _ (by omega) (by omega)).mono ?_
  rintro e w1 ⟨v1, rfl, hown1, hb1⟩
  go_wp2_with fail
  go_loopw [3, 4] (fun v j wr => ∃ k : Nat, k ≤ n ∧ j = .int .i64 k ∧ Below w.heap.size w wr ∧ Own wr w.heap.size 5 v (bv (encI n ++ (l.take k).flatMap encI))) (fun _ j _ => n - (intOf j).toNat)
  case atStart => exact ⟨0, Nat.zero_le _, rfl, hb1, by simpa using hown1⟩
  case round =>
    clear hown1
    obtain ⟨k, hk, rfl, hbw, hown⟩ := hrel
    by_cases hlt : k < n
    · obtain ⟨ad, rfl, hc⟩ := (hr.below hbw).int hlt HL.out
      have HT := Lib.hid (List.take_succ_eq_append_getElem (show k < l.length by have := HL.out; omega))
      have HX := Lib.hid (HF.out _ (List.getElem_mem (show k < l.length by have := HL.out; omega)))
      generalize l[k]'(by have := HL.out; omega) = x at *
      have HS := Lib.hid (show bv (encI n ++ (l.take (k + 1)).flatMap encI) = bv (encI n ++ (l.take k).flatMap encI) ++ bv (encI x) by rw [HT.out, ← bv_append]; simp)
      have HN : Hid ((encI n ++ (l.take k).flatMap encI).length ≤ 20000) := Lib.hid (by
        have := length_encI n
        have := length_flatI (l.take k)
        have := List.length_take_le k l
        simp only [List.length_append]; omega)
      go_wp2_with fail
      refine (refIntZ_any x _ HX.out.1 HX.out.2).mono ?_
      rintro e w2 ⟨v2, rfl, hown2, hb2⟩
      replace hown := hown.below hb2
      have hbw2 := bstep hbw hb2
      obtain ⟨A2, n2, c2, rfl, hn2, hn2c, hc2, hr2⟩ := hown2.formN
      have HN2 := Lib.hid (show n2 ≤ 10 by have := hn2.out; have := length_encI x; simp at *; omega)
      clear hn2 hown2 hc
      go_wp2_with (at_builtin; refine wpList_app rfl rfl elemBytes rfl hown rfl hr2 (oneCell_bv _) (by rw [length_bv]; have := HN.out; have := HN2.out; omega) hbw2.size ?_; intro v' w' hown3 _ hb3 _)
      rw [← HS.out] at hown3
      exact ⟨⟨k + 1, by omega, by go_num, hbw2.trans hb3, hown3⟩, by simp [intOf]; omega⟩
    · obtain rfl : k = n := by omega
      have HT := Lib.hid (show l.take k = l by rw [List.take_of_length_le (by have := HL.out; omega)])
      rw [HT.out, ← HE.out] at hown
      go_wp2
      go_ret
      exact ⟨_, rfl, hown, hbw⟩
end Go.Proofs.YtcehaojohfbfkaaDoor
