/-
  Known of the functions of this seat's laws, joined. Conditions: each theorem's own.
-/
import Derived.Test.YtcapckngikekpaaGreatDoorI6
namespace Go.Proofs.YtcapckngikekpaaGreatDoor
set_option linter.unusedSimpArgs false
set_option linter.unusedVariables false
set_option maxRecDepth 100000
set_option maxHeartbeats 16000000
section
open Go.RowKit
def zz (n : Int) : Nat := if 0 ≤ n then (2 * n).toNat else (2 * (-1 - n) + 1).toNat
theorem zms (n : Int) (h1 : -9223372036854775808 ≤ n) (h2 : n ≤ 9223372036854775807) : zz n < 18446744073709551616 := by unfold zz; split <;> omega
theorem zxn (m : Nat) : zz (m : Int) = 2 * m := by unfold zz; rw [if_pos (by omega)]; omega
def z13 (n : Int) : List UInt8 := z2r 9 (zz n)
def z21 (l : List Int) : List UInt8 := z13 l.length ++ l.flatMap z13
theorem zxb (a : Nat) (h : a < 18446744073709551616) : bits .xor .u64 (a : Int) 18446744073709551615 = ((18446744073709551615 - a : Nat) : Int) := by
 rw [show (18446744073709551615 : Int) = ((18446744073709551615 : Nat) : Int) from rfl, zg1 a _ h (by omega)]
 congr 1
 have := congrArg BitVec.toNat (BitVec.xor_allOnes (x := BitVec.ofNat 64 a))
 rw [BitVec.toNat_xor, BitVec.toNat_not, BitVec.toNat_ofNat, BitVec.toNat_allOnes, Nat.mod_eq_of_lt (by omega)] at this
 exact this
theorem zxm (n : Int) (h1 : 0 ≤ n) (h2 : n ≤ 9223372036854775807) : bits .xor .u64 (n * 2) (n / 9223372036854775808) = ((zz n : Nat) : Int) := by
 rw [show n / 9223372036854775808 = 0 by omega]
 obtain ⟨m, rfl⟩ : ∃ m : Nat, n = m := ⟨n.toNat, by omega⟩
 have := zg1 (2 * m) 0 (by omega) (by omega)
 rw [show ((m : Int) * 2) = ((2 * m : Nat) : Int) by omega, show (0 : Int) = ((0 : Nat) : Int) from rfl, this, zxn]
 simp
theorem zxl (n : Int) (h1 : n < 0) (h2 : -9223372036854775808 ≤ n) : bits .xor .u64 (IntKind.u64.wrap (IntKind.u64.wrap n * 2)) (IntKind.u64.wrap (n / 9223372036854775808)) = ((zz n : Nat) : Int) := by
 rw [show n / 9223372036854775808 = -1 by omega, IntKind.wrap_u64, IntKind.wrap_u64, IntKind.wrap_u64]
 rw [show (-1 : Int) % 18446744073709551616 = 18446744073709551615 by decide]
 obtain ⟨m, hm⟩ : ∃ m : Nat, (m : Int) = n % 18446744073709551616 * 2 % 18446744073709551616 := ⟨(n % 18446744073709551616 * 2 % 18446744073709551616).toNat, by omega⟩
 rw [← hm, zxb m (by omega)]
 congr 1
 unfold zz
 rw [if_neg (by omega)]
 omega
theorem zg6 (n : Int) (w : World) (h1 : -9223372036854775808 ≤ n) (h2 : n ≤ 9223372036854775807) :
  Calls Tryz.prog 106 #[.int .i64 n] w fun e w' => ∃ v, e = .returned v ∧ Own w' w.heap.size 5 v (bv (z13 n)) ∧ Below w.heap.size w w' := by
 have HZ := ya (zms n h1 h2)
 by_cases hs : 0 ≤ n
 ·have hx := zxm n hs h2
  go_enter Tryz.func106, Tryz.ntmps106
  go_wp2_with fail
  go_loopw [3, 4] (fun x v wr => ∃ (f z : Nat) (acc : List UInt8), x = .int .u64 z ∧ z < 128 ^ (f + 1) ∧ f + acc.length ≤ 9 ∧ acc ++ z2r f z = z13 n ∧ Own wr w.heap.size 5 v (bv acc) ∧ Below w.heap.size w wr) (fun x _ _ => (intOf x).toNat)
  case atStart => exact ⟨9, zz n, [], rfl, by have := HZ.out; omega, by simp, by simp [z13], Own.nil _ _ _, Below.refl _ _⟩
  case round =>
   obtain ⟨f, z, acc, rfl, hzf, hfa, hacc, hown, hb⟩ := hrel
   have hz := hb.size
   have hzl : z < 1180591620717411303424 := by
    have : 128 ^ (f + 1) ≤ 128 ^ 10 := Nat.pow_le_pow_right (by omega) (by omega)
    omega
   have HA := ya hacc
   clear hacc
   by_cases hlt : z < 128
   ·have hv := za1 f z hlt
    have HV := ya hv
    have hz2 : ¬ (127 : Int) < z := by omega
    have hd : decide ((127 : Int) < (z : Int)) = false := by simpa using hz2
    clear hv hzf hzl
    go_wp2_with (at_builtin; refine z27 rfl rfl z2p rfl (hown.alloc _) rfl (Rd.new1 _ _ _) (z3r rfl) (by rw [z0r]; omega) (by simp; omega) ?_; intro v' w' hown' hg' hb' _)
    go_ret
    refine ⟨_, rfl, ?_, (hb.alloc hz _).trans hb'⟩
    rw [← HA.out, HV.out, z2n, show bv [UInt8.ofNat z] = [.int .u8 (z : Nat)] by simp [bv, UInt8.toNat_ofNat']; omega]
    exact hown'
   ·obtain ⟨f, rfl⟩ : ∃ g, f = g + 1 := by
     cases f with
     | zero => exfalso; simp at hzf; omega
     | succ f => exact ⟨f, rfl⟩
    have hv := za0 f z hlt
    have HV := ya hv
    have hd : decide ((127 : Int) < (z : Int)) = true := by simp; omega
    have ho := zfb z
    have hq : z / 128 < 128 ^ (f + 1) := by
     rw [Nat.div_lt_iff_lt_mul (by omega)]; rw [Nat.pow_succ] at hzf; exact hzf
    have HQ := ya hq
    clear hv hzf hq
    go_wp2_with (at_builtin; refine z27 rfl rfl z2p rfl (hown.alloc _) rfl (Rd.new1 _ _ _) (z3r rfl) (by rw [z0r]; omega) (by simp; omega) ?_; intro v' w' hown' hg' hb' _)
    refine ⟨⟨f, z / 128, acc ++ [UInt8.ofNat (z % 128 + 128)], by simp, HQ.out, by simp; omega, by rw [← HA.out, HV.out, List.append_assoc]; rfl, ?_, (hb.alloc hz _).trans hb'⟩, ?_⟩
    ·rw [z2n, show bv [UInt8.ofNat (z % 128 + 128)] = [.int .u8 ((z % 128 + 128 : Nat) : Int)] by simp [bv, UInt8.toNat_ofNat']; omega]
     exact hown'
    ·simp [intOf]; omega
 ·have hx := zxl n (by omega) h1
  go_enter Tryz.func106, Tryz.ntmps106
  go_wp2_with fail
  go_loopw [3, 4] (fun x v wr => ∃ (f z : Nat) (acc : List UInt8), x = .int .u64 z ∧ z < 128 ^ (f + 1) ∧ f + acc.length ≤ 9 ∧ acc ++ z2r f z = z13 n ∧ Own wr w.heap.size 5 v (bv acc) ∧ Below w.heap.size w wr) (fun x _ _ => (intOf x).toNat)
  case atStart => exact ⟨9, zz n, [], rfl, by have := HZ.out; omega, by simp, by simp [z13], Own.nil _ _ _, Below.refl _ _⟩
  case round =>
   obtain ⟨f, z, acc, rfl, hzf, hfa, hacc, hown, hb⟩ := hrel
   have hz := hb.size
   have hzl : z < 1180591620717411303424 := by
    have : 128 ^ (f + 1) ≤ 128 ^ 10 := Nat.pow_le_pow_right (by omega) (by omega)
    omega
   have HA := ya hacc
   clear hacc
   by_cases hlt : z < 128
   ·have hv := za1 f z hlt
    have HV := ya hv
    have hz2 : ¬ (127 : Int) < z := by omega
    have hd : decide ((127 : Int) < (z : Int)) = false := by simpa using hz2
    clear hv hzf hzl
    go_wp2_with (at_builtin; refine z27 rfl rfl z2p rfl (hown.alloc _) rfl (Rd.new1 _ _ _) (z3r rfl) (by rw [z0r]; omega) (by simp; omega) ?_; intro v' w' hown' hg' hb' _)
    go_ret
    refine ⟨_, rfl, ?_, (hb.alloc hz _).trans hb'⟩
    rw [← HA.out, HV.out, z2n, show bv [UInt8.ofNat z] = [.int .u8 (z : Nat)] by simp [bv, UInt8.toNat_ofNat']; omega]
    exact hown'
   ·obtain ⟨f, rfl⟩ : ∃ g, f = g + 1 := by
     cases f with
     | zero => exfalso; simp at hzf; omega
     | succ f => exact ⟨f, rfl⟩
    have hv := za0 f z hlt
    have HV := ya hv
    have hd : decide ((127 : Int) < (z : Int)) = true := by simp; omega
    have ho := zfb z
    have hq : z / 128 < 128 ^ (f + 1) := by
     rw [Nat.div_lt_iff_lt_mul (by omega)]; rw [Nat.pow_succ] at hzf; exact hzf
    have HQ := ya hq
    clear hv hzf hq
    go_wp2_with (at_builtin; refine z27 rfl rfl z2p rfl (hown.alloc _) rfl (Rd.new1 _ _ _) (z3r rfl) (by rw [z0r]; omega) (by simp; omega) ?_; intro v' w' hown' hg' hb' _)
    refine ⟨⟨f, z / 128, acc ++ [UInt8.ofNat (z % 128 + 128)], by simp, HQ.out, by simp; omega, by rw [← HA.out, HV.out, List.append_assoc]; rfl, ?_, (hb.alloc hz _).trans hb'⟩, ?_⟩
    ·rw [z2n, show bv [UInt8.ofNat (z % 128 + 128)] = [.int .u8 ((z % 128 + 128 : Nat) : Int)] by simp [bv, UInt8.toNat_ofNat']; omega]
     exact hown'
    ·simp [intOf]; omega
theorem zxp (n : Int) (h1 : 0 ≤ n) (h2 : n ≤ 9223372036854775807) : n * 2 = ((zz n : Nat) : Int) := by unfold zz; rw [if_pos h1]; omega
theorem zxo (n : Int) (h1 : n < 0) (h2 : -9223372036854775808 ≤ n) : (-1 - n) * 2 + 1 = ((zz n : Nat) : Int) := by unfold zz; rw [if_neg (by omega)]; omega
theorem zkr (n : Int) (w : World) (h1 : -9223372036854775808 ≤ n) (h2 : n ≤ 9223372036854775807) :
  Calls Tryz.prog 107 #[.int .i64 n] w fun e w' => ∃ v, e = .returned v ∧ Own w' w.heap.size 5 v (bv (z13 n)) ∧ Below w.heap.size w w' := by
 have HZ := ya (zms n h1 h2)
 by_cases hs : n < 0
 ·have hx := zxo n hs h1
  go_enter Tryz.func107, Tryz.ntmps107
  go_wp2_with fail
  go_loopw [3, 4] (fun x v wr => ∃ (f z : Nat) (acc : List UInt8), x = .int .u64 z ∧ z < 128 ^ (f + 1) ∧ f + acc.length ≤ 9 ∧ acc ++ z2r f z = z13 n ∧ Own wr w.heap.size 5 v (bv acc) ∧ Below w.heap.size w wr) (fun x _ _ => (intOf x).toNat)
  case atStart => exact ⟨9, zz n, [], rfl, by have := HZ.out; omega, by simp, by simp [z13], Own.nil _ _ _, Below.refl _ _⟩
  case round =>
   obtain ⟨f, z, acc, rfl, hzf, hfa, hacc, hown, hb⟩ := hrel
   have hz := hb.size
   have hzl : z < 1180591620717411303424 := by
    have : 128 ^ (f + 1) ≤ 128 ^ 10 := Nat.pow_le_pow_right (by omega) (by omega)
    omega
   have HA := ya hacc
   clear hacc
   by_cases hlt : z < 128
   ·have hv := za1 f z hlt
    have HV := ya hv
    have hd : decide ((128 : Int) ≤ (z : Int)) = false := by simp; omega
    clear hv hzf hzl
    go_wp2_with (at_builtin; refine z27 rfl rfl z2p rfl (hown.alloc _) rfl (Rd.new1 _ _ _) (z3r rfl) (by rw [z0r]; omega) (by simp; omega) ?_; intro v' w' hown' hg' hb' _)
    go_ret
    refine ⟨_, rfl, ?_, (hb.alloc hz _).trans hb'⟩
    rw [← HA.out, HV.out, z2n, show bv [UInt8.ofNat z] = [.int .u8 (z : Nat)] by simp [bv, UInt8.toNat_ofNat']; omega]
    exact hown'
   ·obtain ⟨f, rfl⟩ : ∃ g, f = g + 1 := by
     cases f with
     | zero => exfalso; simp at hzf; omega
     | succ f => exact ⟨f, rfl⟩
    have hv := za0 f z hlt
    have HV := ya hv
    have hd : decide ((128 : Int) ≤ (z : Int)) = true := by simp; omega
    have hq : z / 128 < 128 ^ (f + 1) := by
     rw [Nat.div_lt_iff_lt_mul (by omega)]; rw [Nat.pow_succ] at hzf; exact hzf
    have HQ := ya hq
    clear hv hzf hq
    go_wp2_with (at_builtin; refine z27 rfl rfl z2p rfl (hown.alloc _) rfl (Rd.new1 _ _ _) (z3r rfl) (by rw [z0r]; omega) (by simp; omega) ?_; intro v' w' hown' hg' hb' _)
    refine ⟨⟨f, z / 128, acc ++ [UInt8.ofNat (z % 128 + 128)], by simp, HQ.out, by simp; omega, by rw [← HA.out, HV.out, List.append_assoc]; rfl, ?_, (hb.alloc hz _).trans hb'⟩, ?_⟩
    ·rw [z2n, show bv [UInt8.ofNat (z % 128 + 128)] = [.int .u8 ((z : Int) % 128 + 128)] by simp [bv, UInt8.toNat_ofNat']; omega]
     exact hown'
    ·simp [intOf]; omega
 ·have hx := zxp n (by omega) h2
  go_enter Tryz.func107, Tryz.ntmps107
  go_wp2_with fail
  go_loopw [3, 4] (fun x v wr => ∃ (f z : Nat) (acc : List UInt8), x = .int .u64 z ∧ z < 128 ^ (f + 1) ∧ f + acc.length ≤ 9 ∧ acc ++ z2r f z = z13 n ∧ Own wr w.heap.size 5 v (bv acc) ∧ Below w.heap.size w wr) (fun x _ _ => (intOf x).toNat)
  case atStart => exact ⟨9, zz n, [], rfl, by have := HZ.out; omega, by simp, by simp [z13], Own.nil _ _ _, Below.refl _ _⟩
  case round =>
   obtain ⟨f, z, acc, rfl, hzf, hfa, hacc, hown, hb⟩ := hrel
   have hz := hb.size
   have hzl : z < 1180591620717411303424 := by
    have : 128 ^ (f + 1) ≤ 128 ^ 10 := Nat.pow_le_pow_right (by omega) (by omega)
    omega
   have HA := ya hacc
   clear hacc
   by_cases hlt : z < 128
   ·have hv := za1 f z hlt
    have HV := ya hv
    have hd : decide ((128 : Int) ≤ (z : Int)) = false := by simp; omega
    clear hv hzf hzl
    go_wp2_with (at_builtin; refine z27 rfl rfl z2p rfl (hown.alloc _) rfl (Rd.new1 _ _ _) (z3r rfl) (by rw [z0r]; omega) (by simp; omega) ?_; intro v' w' hown' hg' hb' _)
    go_ret
    refine ⟨_, rfl, ?_, (hb.alloc hz _).trans hb'⟩
    rw [← HA.out, HV.out, z2n, show bv [UInt8.ofNat z] = [.int .u8 (z : Nat)] by simp [bv, UInt8.toNat_ofNat']; omega]
    exact hown'
   ·obtain ⟨f, rfl⟩ : ∃ g, f = g + 1 := by
     cases f with
     | zero => exfalso; simp at hzf; omega
     | succ f => exact ⟨f, rfl⟩
    have hv := za0 f z hlt
    have HV := ya hv
    have hd : decide ((128 : Int) ≤ (z : Int)) = true := by simp; omega
    have hq : z / 128 < 128 ^ (f + 1) := by
     rw [Nat.div_lt_iff_lt_mul (by omega)]; rw [Nat.pow_succ] at hzf; exact hzf
    have HQ := ya hq
    clear hv hzf hq
    go_wp2_with (at_builtin; refine z27 rfl rfl z2p rfl (hown.alloc _) rfl (Rd.new1 _ _ _) (z3r rfl) (by rw [z0r]; omega) (by simp; omega) ?_; intro v' w' hown' hg' hb' _)
    refine ⟨⟨f, z / 128, acc ++ [UInt8.ofNat (z % 128 + 128)], by simp, HQ.out, by simp; omega, by rw [← HA.out, HV.out, List.append_assoc]; rfl, ?_, (hb.alloc hz _).trans hb'⟩, ?_⟩
    ·rw [z2n, show bv [UInt8.ofNat (z % 128 + 128)] = [.int .u8 ((z : Int) % 128 + 128)] by simp [bv, UInt8.toNat_ofNat']; omega]
     exact hown'
    ·simp [intOf]; omega
theorem z7u (n : Int) : (z13 n).length ≤ 10 := z9h 9 (zz n)
theorem zci : ∀ l : List Int, (l.flatMap z13).length ≤ l.length * 10
 | [] => by simp
 | x :: l => by have := zci l; have := z7u x; simp only [List.flatMap_cons, List.length_append, List.length_cons]; omega
def z29 (l : List Int) : Prop := ∀ x ∈ l, -9223372036854775808 ≤ x ∧ x ≤ 9223372036854775807
theorem zwf (A : Option Addr) (n c : Nat) (l : List Int) (w : World) (hr : Rd w A n (iv l)) (hn : n ≤ 1000) (hf : z29 l) :
  Calls Tryz.prog 105 #[.slice A n c, .func (.func 106) #[] #[]] w fun e w' => ∃ v, e = .returned v ∧ Own w' w.heap.size 5 v (bv (z21 l)) ∧ Below w.heap.size w w' := by
 have HL := ya (show l.length = n by have := hr.len; simpa using this)
 have HF := ya hf
 clear hf
 have HE := ya (show z21 l = z13 n ++ l.flatMap z13 by unfold z21; rw [HL.out])
 go_enter Tryz.func105, Tryz.ntmps105
 go_wp2_with fail
 refine (zg6 n _ (by omega) (by omega)).mono ?_
 rintro e w1 ⟨v1, rfl, hown1, hb1⟩
 go_wp2_with fail
 go_loopw [5, 7, 13] (fun v _ j wr => ∃ k : Nat, k ≤ n ∧ j = .int .i64 k ∧ Below w.heap.size w wr ∧ Own wr w.heap.size 5 v (bv (z13 n ++ (l.take k).flatMap z13))) (fun _ _ j _ => n - (intOf j).toNat)
 case atStart => exact ⟨0, Nat.zero_le _, rfl, hb1, by simpa using hown1⟩
 case round =>
  clear hown1
  obtain ⟨k, hk, rfl, hbw, hown⟩ := hrel
  by_cases hlt : k < n
  ·obtain ⟨ad, rfl, hc⟩ := (hr.below hbw).int hlt HL.out
   have HT := ya (List.take_succ_eq_append_getElem (show k < l.length by have := HL.out; omega))
   have HX := ya (HF.out _ (List.getElem_mem (show k < l.length by have := HL.out; omega)))
   generalize l[k]'(by have := HL.out; omega) = x at *
   have HS := ya (show bv (z13 n ++ (l.take (k + 1)).flatMap z13) = bv (z13 n ++ (l.take k).flatMap z13) ++ bv (z13 x) by rw [HT.out, ← z2n]; simp)
   have HN : Hid ((z13 n ++ (l.take k).flatMap z13).length ≤ 20000) := ya (by
    have := z7u n
    have := zci (l.take k)
    have := List.length_take_le k l
    simp only [List.length_append]; omega)
   go_wp2_with fail
   refine (zg6 x _ HX.out.1 HX.out.2).mono ?_
   rintro e w2 ⟨v2, rfl, hown2, hb2⟩
   replace hown := hown.below hb2
   have hbw2 := yb hbw hb2
   obtain ⟨A2, n2, c2, rfl, hn2, hn2c, hc2, hr2⟩ := hown2.formN
   have HN2 := ya (show n2 ≤ 10 by have := hn2.out; have := z7u x; simp at *; omega)
   clear hn2 hown2 hc
   go_wp2_with (at_builtin; refine z27 rfl rfl z2p rfl hown rfl hr2 (z9n _) (by rw [z0r]; have := HN.out; have := HN2.out; omega) hbw2.size ?_; intro v' w' hown3 _ hb3 _)
   rw [← HS.out] at hown3
   exact ⟨⟨k + 1, by omega, by go_num, hbw2.trans hb3, hown3⟩, by simp [intOf]; omega⟩
  ·obtain rfl : k = n := by omega
   have HT := ya (show l.take k = l by rw [List.take_of_length_le (by have := HL.out; omega)])
   rw [HT.out, ← HE.out] at hown
   go_wp2
   go_ret
   exact ⟨_, rfl, hown, hbw⟩
theorem zbb (A : Option Addr) (n c : Nat) (l : List Int) (w : World) (hr : Rd w A n (iv l)) (hn : n ≤ 1000) (hf : z29 l) :
  Calls Tryz.prog 56 #[.slice A n c] w fun e w' => ∃ v, e = .returned v ∧ Own w' w.heap.size 5 v (bv (z21 l)) ∧ Below w.heap.size w w' := by
 go_enter Tryz.func56, Tryz.ntmps56
 go_wp2_with fail
 refine (zwf A n c l _ hr hn hf).mono ?_
 rintro e w1 ⟨v1, rfl, hown1, hb1⟩
 go_wp2_with fail
 go_ret
 exact ⟨_, rfl, hown1, hb1⟩
theorem ztj (A : Option Addr) (n c : Nat) (l : List Int) (w : World) (hr : Rd w A n (iv l)) (hn : n ≤ 1000) (hf : z29 l) :
  Calls Tryz.prog 58 #[.slice A n c] w fun e w' => ∃ v, e = .returned v ∧ Own w' w.heap.size 5 v (bv (z21 l)) ∧ Below w.heap.size w w' := by
 have HL := ya (show l.length = n by have := hr.len; simpa using this)
 have HF := ya hf
 clear hf
 have HE := ya (show z21 l = z13 n ++ l.flatMap z13 by unfold z21; rw [HL.out])
 go_enter Tryz.func58, Tryz.ntmps58
 go_wp2_with fail
 refine (zkr n _ (by omega) (by omega)).mono ?_
 rintro e w1 ⟨v1, rfl, hown1, hb1⟩
 go_wp2_with fail
 go_loopw [3, 4] (fun v j wr => ∃ k : Nat, k ≤ n ∧ j = .int .i64 k ∧ Below w.heap.size w wr ∧ Own wr w.heap.size 5 v (bv (z13 n ++ (l.take k).flatMap z13))) (fun _ j _ => n - (intOf j).toNat)
 case atStart => exact ⟨0, Nat.zero_le _, rfl, hb1, by simpa using hown1⟩
 case round =>
  clear hown1
  obtain ⟨k, hk, rfl, hbw, hown⟩ := hrel
  by_cases hlt : k < n
  ·obtain ⟨ad, rfl, hc⟩ := (hr.below hbw).int hlt HL.out
   have HT := ya (List.take_succ_eq_append_getElem (show k < l.length by have := HL.out; omega))
   have HX := ya (HF.out _ (List.getElem_mem (show k < l.length by have := HL.out; omega)))
   generalize l[k]'(by have := HL.out; omega) = x at *
   have HS := ya (show bv (z13 n ++ (l.take (k + 1)).flatMap z13) = bv (z13 n ++ (l.take k).flatMap z13) ++ bv (z13 x) by rw [HT.out, ← z2n]; simp)
   have HN : Hid ((z13 n ++ (l.take k).flatMap z13).length ≤ 20000) := ya (by
    have := z7u n
    have := zci (l.take k)
    have := List.length_take_le k l
    simp only [List.length_append]; omega)
   go_wp2_with fail
   refine (zkr x _ HX.out.1 HX.out.2).mono ?_
   rintro e w2 ⟨v2, rfl, hown2, hb2⟩
   replace hown := hown.below hb2
   have hbw2 := yb hbw hb2
   obtain ⟨A2, n2, c2, rfl, hn2, hn2c, hc2, hr2⟩ := hown2.formN
   have HN2 := ya (show n2 ≤ 10 by have := hn2.out; have := z7u x; simp at *; omega)
   clear hn2 hown2 hc
   go_wp2_with (at_builtin; refine z27 rfl rfl z2p rfl hown rfl hr2 (z9n _) (by rw [z0r]; have := HN.out; have := HN2.out; omega) hbw2.size ?_; intro v' w' hown3 _ hb3 _)
   rw [← HS.out] at hown3
   exact ⟨⟨k + 1, by omega, by go_num, hbw2.trans hb3, hown3⟩, by simp [intOf]; omega⟩
  ·obtain rfl : k = n := by omega
   have HT := ya (show l.take k = l by rw [List.take_of_length_le (by have := HL.out; omega)])
   rw [HT.out, ← HE.out] at hown
   go_wp2
   go_ret
   exact ⟨_, rfl, hown, hbw⟩
def z68 (l : List ByteArray) : List UInt8 := z13 l.length ++ l.flatMap fun s => z1q s.data.toList
theorem zj0 (s : ByteArray) (h : s.size ≤ 65536) : (z1q s.data.toList).length ≤ 65546 := by
 unfold z1q
 rw [List.length_append]
 have := z9h 9 (2 * s.data.toList.length)
 have e : s.data.toList.length = s.size := by simp
 omega
theorem zj1 : ∀ l : List ByteArray, (∀ s ∈ l, s.size ≤ 65536) → (l.flatMap fun s => z1q s.data.toList).length ≤ l.length * 65546
 | [], _ => by simp
 | x :: l, h => by
  have := zj1 l (fun s hs => h s (by simp [hs]))
  have := zj0 x (h x (by simp))
  simp only [List.flatMap_cons, List.length_append, List.length_cons]; omega
def z67 (n : Nat) (l : List ByteArray) : List UInt8 := z13 n ++ l.flatMap fun s => z1q s.data.toList
theorem zpl (n : Nat) (l : List ByteArray) (k : Nat) (h : k < l.length) : bv (z67 n (l.take (k + 1))) = bv (z67 n (l.take k)) ++ bv (z1q l[k].data.toList) := by
 unfold z67
 rw [List.take_succ_eq_append_getElem h, ← z2n, List.flatMap_append, List.append_assoc]
 simp only [List.flatMap_cons, List.flatMap_nil, List.append_nil]
theorem zpk (n : Nat) (l : List ByteArray) (k : Nat) (hl : l.length ≤ 1000) (h : ∀ s ∈ l, s.size ≤ 65536) : (z67 n (l.take k)).length ≤ 100000000 := by
 unfold z67
 rw [List.length_append]
 have := z7u n
 have := zj1 (l.take k) (fun s hs => h s (List.mem_of_mem_take hs))
 have : (l.take k).length ≤ l.length := by rw [List.length_take]; omega
 omega
theorem zwe (A : Option Addr) (n c : Nat) (l : List ByteArray) (w : World) (hr : Rd w A n (sv l)) (hn : n ≤ 1000) (hs : ∀ s ∈ l, s.size ≤ 65536) :
  Calls Tryz.prog 144 #[.slice A n c, .func (.func 141) #[] #[]] w fun e w' => ∃ v, e = .returned v ∧ Own w' w.heap.size 5 v (bv (z68 l)) ∧ Below w.heap.size w w' := by
 have HL := ya (show l.length = n by have := hr.len; simpa using this)
 have HSZ := ya hs
 have HLN := ya (fun k => zpk n l k (by have := HL.out; omega) hs)
 have HNX := ya (zpl n l)
 have HE : Hid (z68 l = z67 n (l.take n)) := ya (by unfold z68 z67; rw [HL.out, List.take_of_length_le (by have := HL.out; omega)])
 have H0 : Hid (z13 n = z67 n (l.take 0)) := ya (by unfold z67; simp)
 clear hs
 go_enter Tryz.func144, Tryz.ntmps144
 go_wp2_with fail
 refine (zg6 n _ (by omega) (by omega)).mono ?_
 rintro e w1 ⟨v1, rfl, hown1, hb1⟩
 rw [H0.out] at hown1
 go_wp2_with fail
 go_loopw [5, 7, 13] (fun v _ j wr => ∃ k : Nat, k ≤ n ∧ j = .int .i64 k ∧ Below w.heap.size w wr ∧ Own wr w.heap.size 5 v (bv (z67 n (l.take k)))) (fun _ _ j _ => n - (intOf j).toNat)
 case atStart => exact ⟨0, Nat.zero_le _, rfl, hb1, hown1⟩
 case round =>
  clear hown1
  obtain ⟨k, hk, rfl, hbw, hown⟩ := hrel
  by_cases hlt : k < n
  ·obtain ⟨ad, rfl, hc⟩ := (hr.below hbw).str hlt HL.out
   have hkl : k < l.length := by have := HL.out; omega
   have HX := ya (HSZ.out _ (List.getElem_mem hkl))
   have HS := ya (HNX.out k hkl)
   have HN := ya (HLN.out k)
   generalize l[k]'(by have := HL.out; omega) = x at *
   clear hkl
   go_wp2_with fail
   refine (zm9 x _ (by have := HX.out; omega)).mono ?_
   rintro e w2 ⟨v2, rfl, hown2, hb2⟩
   replace hown := hown.below hb2
   have hbw2 := yb hbw hb2
   obtain ⟨A2, n2, c2, rfl, hn2, hn2c, hc2, hr2⟩ := hown2.formN
   have HN2 := ya (show n2 ≤ 65546 by have := hn2.out; have := zj0 x HX.out; rw [z0r] at *; omega)
   clear hn2 hown2 hc
   go_wp2_with (at_builtin; refine z27 rfl rfl z2p rfl hown rfl hr2 (z9n _) (by rw [z0r]; have := HN.out; have := HN2.out; omega) hbw2.size ?_; intro v' w' hown3 _ hb3 _)
   rw [← HS.out] at hown3
   exact ⟨⟨k + 1, by omega, by go_num, hbw2.trans hb3, hown3⟩, by simp [intOf]; omega⟩
  ·obtain rfl : k = n := by omega
   rw [← HE.out] at hown
   go_wp2
   go_ret
   exact ⟨_, rfl, hown, hbw⟩
theorem zwg (A : Option Addr) (n c : Nat) (l : List ByteArray) (w : World) (hr : Rd w A n (sv l)) (hn : n ≤ 1000) (hs : ∀ s ∈ l, s.size ≤ 65536) :
  Calls Tryz.prog 101 #[.slice A n c] w fun e w' => ∃ v, e = .returned v ∧ Own w' w.heap.size 5 v (bv (z68 l)) ∧ Below w.heap.size w w' := by
 have HQ := ya (zwe A n c l w hr hn hs)
 clear hr hs
 generalize z68 l = R at *
 go_enter Tryz.func101, Tryz.ntmps101
 go_wp2_with fail
 refine HQ.out.mono ?_
 rintro e w1 ⟨v1, rfl, hown1, hb1⟩
 go_wp2_with fail
 go_ret
 exact ⟨_, rfl, hown1, hb1⟩
theorem zpm (A : Option Addr) (n c : Nat) (l : List Int) (w : World) (hr : Rd w A n (iv l)) (hn : n ≤ 1000) (hf : z29 l) :
  Calls Tryz.prog 100 #[.slice A n c] w fun e w' => ∃ v, e = .returned v ∧ Own w' w.heap.size 5 v (bv (z21 l)) ∧ Below w.heap.size w w' := by
 have HQ := ya (zbb A n c l w hr hn hf)
 clear hr hf
 generalize z21 l = R at *
 go_enter Tryz.func100, Tryz.ntmps100
 go_wp2_with fail
 refine HQ.out.mono ?_
 rintro e w1 ⟨v1, rfl, hown1, hb1⟩
 go_wp2_with fail
 go_ret
 exact ⟨_, rfl, hown1, hb1⟩
end
section
open Go.RowKit Exch Merk Ring
/-! Attributes. -/
def atL (a : At) : List Value := [.string a.name, .int .i64 a.kind, .int .i64 a.n, .string a.s]
abbrev atC (a : At) : Array Value := #[.string a.name, .int .i64 a.kind, .int .i64 a.n, .string a.s]
theorem zdr (a : At) : (atL a).length = 4 := rfl
def atsL (l : List At) : List Value := l.flatMap atL
theorem zs9 (a : At) : (atC a).all (·.oneCell') = true := by simp [atC, Value.oneCell']
theorem aggAt : (Tryz.prog.underlying 100).map z0c = some true := by kernel_rfl
theorem zlk : (Tryz.prog.info? 100).map (·.size) = some 4 := by kernel_rfl
theorem zxh (W : World) : (zeroValue 100).run Tryz.prog W = .ok (.agg (atC ⟨⟨#[]⟩, 0, 0, ⟨#[]⟩⟩)) W := by kernel_rfl
structure RdA (W : World) (A : Option Addr) (n : Nat) (l : List At) : Prop where
 len : l.length = n
 rd : Rd W A (n * 4) (atsL l)
theorem RdA.below {W W' : World} {A : Option Addr} {n : Nat} {l : List At} (h : RdA W A n l) (hb : Below W.heap.size W W') : RdA W' A n l := ⟨h.len, h.rd.below hb⟩
theorem RdA.elem {W : World} {A : Option Addr} {n : Nat} {l : List At} (h : RdA W A n l) {i : Nat} (hi : i < l.length) : ∃ ad, A = some ad ∧ ∀ j u, (atL l[i])[j]? = some u → W.cell? ((ad.add (i * 4)).add j) = some u :=
 Rd.elem zdr (by omega) h.rd hi
/-! Events: a row holds an event's numbers, its nonce, and where its vector and its attributes lie. -/
structure EvR where
 e : Ev
 vA : Option Addr
 vn : Nat
 vc : Nat
 aA : Option Addr
 an : Nat
 ac : Nat
def evL (r : EvR) : List Value := [.int .i64 r.e.kind, .int .i64 r.e.commit, .int .i64 r.e.day, .int .i64 r.e.id, .int .i64 r.e.owner, .int .i64 r.e.til, .int .i64 r.e.frm, .slice r.vA r.vn r.vc, .slice r.aA r.an r.ac] ++ bv (dg r.e.nonce)
abbrev evC (r : EvR) : Array Value := (evL r).toArray
abbrev evV (r : EvR) : Value := .agg (evC r)
theorem z20 (r : EvR) : (evL r).length = 25 := by unfold evL; rw [List.length_append, z09]; rfl
theorem z3w (r : EvR) : (evC r).size = 25 := by rw [evC, List.size_toArray, z20]
theorem zb0 (r : EvR) : ∀ u ∈ evL r, u.oneCell' = true := by
 intro u hu
 rcases List.mem_append.1 hu with hu | hu
 ·simp only [List.mem_cons, List.not_mem_nil, or_false] at hu
  rcases hu with rfl | rfl | rfl | rfl | rfl | rfl | rfl | rfl | rfl <;> rfl
 ·simp only [bv, List.mem_map] at hu
  obtain ⟨b, _, rfl⟩ := hu
  rfl
theorem zco (r : EvR) : (evC r).all (·.oneCell') = true := by
 rw [Array.all_eq_true_iff_forall_mem]
 intro u hu
 exact zb0 r u (by simpa [evC] using hu)
theorem z23 : (Tryz.prog.underlying 27).map z0c = some true := by kernel_rfl
theorem z1m : (Tryz.prog.info? 27).map (·.size) = some 25 := by kernel_rfl
structure z1d (W : World) (r : EvR) : Prop where
 vlen : r.e.vec.length = r.vn
 vrd : Rd W r.vA r.vn (iv r.e.vec)
 vcap : r.vn ≤ r.vc
 vmax : r.vc ≤ maxLen
 ard : RdA W r.aA r.an r.e.attrs
 acap : r.an ≤ r.ac
 amax : r.ac ≤ maxLen
 non : r.e.nonce < 2 ^ 128
theorem z1d.below {W W' : World} {r : EvR} (h : z1d W r) (hb : Below W.heap.size W W') : z1d W' r := ⟨h.vlen, h.vrd.below hb, h.vcap, h.vmax, h.ard.below hb, h.acap, h.amax, h.non⟩
structure z0v (e : Ev) : Prop where
 vec : z29 e.vec
 attrs : ∀ a ∈ e.attrs, (-9223372036854775808 ≤ a.kind ∧ a.kind ≤ 9223372036854775807) ∧ -9223372036854775808 ≤ a.n ∧ a.n ≤ 9223372036854775807
 nums : z29 [e.kind, e.commit, e.day, e.id, e.owner, e.til, e.frm]
structure z1c (e : Ev) : Prop where
 vec : e.vec.length ≤ 40
 attrs : e.attrs.length ≤ 20
 texts : ∀ a ∈ e.attrs, a.name.size ≤ 200 ∧ a.s.size ≤ 200
section
variable {W : World} {g : Nat} {T : TypeId} {r : EvR}
theorem z59 (hb : Blk W g T (evC r)) (j : Nat) : W.cell? ⟨g, j, none⟩ = (evL r)[j]? := by rw [hb.cell j, List.getElem?_toArray]
theorem zpv (hb : Blk W g T (evC r)) : ∀ j u, (bv (dg r.e.nonce))[j]? = some u → W.cell? ((⟨g, 9, none⟩ : Addr).add j) = some u := by
 intro j u h
 have := z59 hb (9 + j)
 rw [show ((⟨g, 9, none⟩ : Addr).add j) = ⟨g, 9 + j, none⟩ by unfold Addr.add; split <;> simp_all, this]
 unfold evL
 rw [List.getElem?_append_right (by simp), show 9 + j - [Value.int .i64 r.e.kind, .int .i64 r.e.commit, .int .i64 r.e.day, .int .i64 r.e.id, .int .i64 r.e.owner, .int .i64 r.e.til, .int .i64 r.e.frm, .slice r.vA r.vn r.vc, .slice r.aA r.an r.ac].length = j by simp, h]
end
/-! Faces. -/
def fcL (f : Fc) : List Value := [.int .i64 f.kind, .int .i64 f.commit, .int .i64 f.day, .int .i64 f.id, .int .i64 f.owner, .int .i64 f.til, .int .i64 f.frm] ++ bv (dg f.blind)
abbrev fcC (f : Fc) : Array Value := (fcL f).toArray
abbrev fcV (f : Fc) : Value := .agg (fcC f)
theorem z3e (f : Fc) : (fcL f).length = 23 := by unfold fcL; rw [List.length_append, z09]; rfl
theorem z0b (f : Fc) : (fcC f).size = 23 := by rw [fcC, List.size_toArray, z3e]
theorem zf8 (f : Fc) : ∀ u ∈ fcL f, u.oneCell' = true := by
 intro u hu
 rcases List.mem_append.1 hu with hu | hu
 ·simp only [List.mem_cons, List.not_mem_nil, or_false] at hu
  rcases hu with rfl | rfl | rfl | rfl | rfl | rfl | rfl <;> rfl
 ·simp only [bv, List.mem_map] at hu
  obtain ⟨b, _, rfl⟩ := hu
  rfl
theorem z5c (f : Fc) : (fcC f).all (·.oneCell') = true := by
 rw [Array.all_eq_true_iff_forall_mem]
 intro u hu
 exact zf8 f u (by simpa [fcC] using hu)
theorem z2z : (Tryz.prog.underlying 29).map z0c = some true := by kernel_rfl
theorem z1j : (Tryz.prog.info? 29).map (·.size) = some 23 := by kernel_rfl
theorem za9 (W : World) : (zeroValue 29).run Tryz.prog W = .ok (fcV z1e) W := by kernel_rfl
/-! What is sealed of an event. -/
def z38 (l : List At) : List Int := l.flatMap fun a => [a.kind, a.n]
def z2q (l : List At) : List ByteArray := l.flatMap fun a => [a.name, a.s]
def z66 (e : Ev) : List ByteArray := [⟨(z21 e.vec).toArray⟩, ⟨(z21 (z38 e.attrs)).toArray⟩, ⟨(z68 (z2q e.attrs)).toArray⟩]
theorem zf7 (l : List At) : (z38 l).length = 2 * l.length := by
 induction l with
 | nil => rfl
 | cons a l ih => unfold z38 at ih ⊢; rw [List.flatMap_cons, List.length_append, ih]; simp; omega
theorem zfz (l : List At) : (z2q l).length = 2 * l.length := by
 induction l with
 | nil => rfl
 | cons a l ih => unfold z2q at ih ⊢; rw [List.flatMap_cons, List.length_append, ih]; simp; omega
end
section
open Go.RowKit Exch Merk Go.Shelf
theorem zh5 (x y : Int) (W : World) : (Instr.buildSlice 22 2 #[(0, .int .i64 x), (1, .int .i64 y)]).run Tryz.prog W = .ok (.slice (some ⟨W.heap.size, 0, none⟩) 2 2) (W.alloc (.cells #[.int .i64 x, .int .i64 y] 3)) := by kernel_rfl
section
variable {w : World} {ops : Array Oper} {rest : List Oper} {o o1 o2 : Oper} {a : Act} {Q : Exit → Act → World → Prop}
theorem zgb (hg1 : o1.guard = none) (hg2 : o2.guard = none) (h1 : o1.op = .alloc 25) {x y : Operand} {n : Nat} (h2 : o2.op = .store 25 x y) (hx : ∀ p, (a.put o1.dst (.pointer p)).eval x = .pointer p)
  (hy : ∀ p, (a.put o1.dst (.pointer p)).eval y = dgV n)
  (h : ∀ w' g, w.heap.size ≤ g → Blk w' g 25 (dgC n) → Below w.heap.size w w' → wpList Tryz.prog ops Q rest ((a.put o1.dst (.pointer (some ⟨g, 0, none⟩))).put o2.dst undef) w') : wpList Tryz.prog ops Q (o1 :: o2 :: rest) a w :=
 z1p (z := dgC 0) (vs := dgC n) hg1 hg2 h1 h2 (z0z w) hx hy (by rw [yc, yc]) (by rw [yf, yc]) (z0d n) fun w' g hg h1 h2 _ => h w' g (by omega) h1 h2
theorem zww (hw : Region.wanted o (yielded ops a.tmps) = true) {x y : Operand} {p q : Int} (ho : o.op = .buildSlice 22 2 #[(0, x), (1, y)]) (hx : a.eval x = .int .i64 p) (hy : a.eval y = .int .i64 q)
  (h : ∀ w' g, w.heap.size ≤ g → Rd w' (some ⟨g, 0, none⟩) 2 (iv [p, q]) → Below w.heap.size w w' → wpList Tryz.prog ops Q rest (a.put o.dst (.slice (some ⟨g, 0, none⟩) 2 2)) w') : wpList Tryz.prog ops Q (o :: rest) a w := by
 refine zdl hw fun K hK => ?_
 have h2 := h _ _ (Nat.le_refl _) (z56 (xs := iv [p, q]) (Blk.new w 3 _)) ((Below.refl _ _).alloc (Nat.le_refl _) _)
 unfold Oper.wp execOp
 simp only [ho, List.map_toArray, List.map_cons, List.map_nil, hx, hy, zh5, Sem.run_bind, Result.andThen_ok, Sem.run_pure]
 exact hK _ _ h2
end
end
section
open Go.RowKit Exch Merk Ring
section
variable {w w' : World} {B : Nat} {e : TypeId} {size : Nat} {v : Value} {n : Nat} {xs : List Value}
theorem zik (hv : w.ownsRow B e size v n xs) (hg : w.grownBy w' v.ownBlock) {g : Nat} {cs : Array Value} {T : TypeId} {fr : Nat × Nat} (h : w.heap[g]? = some (.cells cs T fr)) (hT : T ≠ e) : w'.heap[g]? = some (.cells cs T fr) := by
 have hlt : g < w.heap.size := (Array.getElem?_eq_some_iff.1 h).1
 rw [hg.block g hlt ?_]
 ·exact h
 ·intro he
  rcases hv.2 with ⟨rfl, _⟩ | ⟨g', cap, cur, rfl, _, hg', _⟩
  ·simp [Value.ownBlock] at he
  ·simp only [Value.ownBlock, Option.some.injEq] at he
   subst he
   rw [h] at hg'
   injection hg' with hg'
   injection hg' with _ h2 _
   exact hT h2
theorem z5s (hv : w.ownsRow B e size v n xs) (hg : w.grownBy w' v.ownBlock) {g : Nat} {cs : Array Value} {T : TypeId} (h : Blk w g T cs) (hT : T ≠ e) : Blk w' g T cs := zik hv hg h hT
theorem z9d (hv : w.ownsRow B e size v n xs) (hg : w.grownBy w' v.ownBlock) {B2 : Nat} {T : TypeId} {size2 : Nat} {u : Value} {n2 : Nat} {ys : List Value} (h : w.ownsRow B2 T size2 u n2 ys) (hT : T ≠ e) : w'.ownsRow B2 T size2 u n2 ys := by
 refine ⟨h.1, ?_⟩
 rcases h.2 with h2 | ⟨g, cap, cur, hu, hb, hh, r⟩
 ·exact .inl h2
 ·exact .inr ⟨g, cap, cur, hu, hb, zik hv hg hh hT, r⟩
end
theorem zed : z90 Tryz.prog 22 3 := by
 obtain ⟨i, h1, h2, h3, h4⟩ := info_parts (show (Tryz.prog.info? 3).map (fun i => (i.zero, i.size, i.bytes)) = some (some (.int .i64 0), 1, 8) by kernel_rfl)
 exact ⟨by kernel_rfl, i, .int .i64 0, h1, h2, h3, by omega, rfl⟩
theorem za8 {P : Program} {ops : Array Oper} {S : World → Prop} {o : Oper} {a : Act} {t : TypeId} {x : Operand} {p : Addr} {v : Value} (ho : o.op = .load t x) (hg : o.guard = none) (ha : a.eval x = .pointer (some p))
  (hu : (P.underlying t).map z0c = some false) (hc : ∀ W, S W → W.cell? p = some v) : YieldsIf P ops S o v a := by
 refine .inl ⟨by simp [Region.wanted, hg], fun w hS => ?_⟩
 unfold execOp
 simp only [ho, ha, Instr.loadAt, Instr.sureAddr, Sem.run_bind, Sem.run_pure, Result.andThen_ok, z9s w p t v hu (hc w hS)]
theorem zge {w : World} {o : Oper} {a : Act} {K : Act → World → Prop} {Q : Exit → Act → World → Prop} {x y : Operand} {p q : Int} (ho : o.op = .buildSlice 22 2 #[(0, x), (1, y)]) (hx : a.eval x = .int .i64 p) (hy : a.eval y = .int .i64 q)
  (h : ∀ w' g, Blk w' g 3 #[.int .i64 p, .int .i64 q] → Below w.heap.size w w' → K (a.put o.dst (.slice (some ⟨g, 0, none⟩) 2 2)) w') : o.wp Tryz.prog a w K Q := by
 have h2 := h _ _ (Blk.new w 3 #[.int .i64 p, .int .i64 q]) ((Below.refl _ _).alloc (Nat.le_refl _) _)
 unfold Oper.wp execOp
 simp only [ho, List.map_toArray, List.map_cons, List.map_nil, hx, hy, zh5, Sem.run_bind, Result.andThen_ok, Sem.run_pure]
 exact h2
theorem zgf {w : World} {o : Oper} {a : Act} {K : Act → World → Prop} {Q : Exit → Act → World → Prop} {x y : Operand} {s t : ByteArray} (ho : o.op = .buildSlice 103 2 #[(0, x), (1, y)]) (hx : a.eval x = .string s) (hy : a.eval y = .string t)
  (h : ∀ w' g, Blk w' g 9 #[.string s, .string t] → Below w.heap.size w w' → K (a.put o.dst (.slice (some ⟨g, 0, none⟩) 2 2)) w') : o.wp Tryz.prog a w K Q := by
 have h2 := h _ _ (Blk.new w 9 #[.string s, .string t]) ((Below.refl _ _).alloc (Nat.le_refl _) _)
 unfold Oper.wp execOp
 simp only [ho, List.map_toArray, List.map_cons, List.map_nil, hx, hy, zh6, Sem.run_bind, Result.andThen_ok, Sem.run_pure]
 exact h2
theorem znl (s t u : ByteArray) (W : World) : (Instr.buildSlice 103 3 #[(0, .string s), (1, .string t), (2, .string u)]).run Tryz.prog W = .ok (.slice (some ⟨W.heap.size, 0, none⟩) 3 3) (W.alloc (.cells #[.string s, .string t, .string u] 9)) := by kernel_rfl
theorem z4g {w : World} {o : Oper} {a : Act} {K : Act → World → Prop} {Q : Exit → Act → World → Prop} {x y z : Operand} {s t u : ByteArray} (ho : o.op = .buildSlice 103 3 #[(0, x), (1, y), (2, z)]) (hx : a.eval x = .string s) (hy : a.eval y = .string t) (hz : a.eval z = .string u)
  (h : ∀ w' g, Own w' w.heap.size 9 (.slice (some ⟨g, 0, none⟩) 3 3) (sv [s, t, u]) → Below w.heap.size w w' → K (a.put o.dst (.slice (some ⟨g, 0, none⟩) 3 3)) w') : o.wp Tryz.prog a w K Q := by
 have h2 := h (w.alloc (.cells #[.string s, .string t, .string u] 9)) w.heap.size ⟨rfl, .inr ⟨w.heap.size, 3, #[.string s, .string t, .string u], rfl, Nat.le_refl _, heap_alloc_new w _, Nat.le_refl _, by simp [maxLen], rfl, rfl⟩⟩ ((Below.refl _ _).alloc (Nat.le_refl _) _)
 unfold Oper.wp execOp
 simp only [ho, List.map_toArray, List.map_cons, List.map_nil, hx, hy, hz, znl, Sem.run_bind, Result.andThen_ok, Sem.run_pure]
 exact h2
theorem zd0 {w : World} {g : Nat} {p q : Int} (h : Blk w g 3 #[.int .i64 p, .int .i64 q]) : Rd w (some ⟨g, 0, none⟩) 2 (iv [p, q]) := z56 (xs := iv [p, q]) h
theorem zfg {w : World} {g : Nat} {s t : ByteArray} (h : Blk w g 9 #[.string s, .string t]) : Rd w (some ⟨g, 0, none⟩) 2 (sv [s, t]) := z56 (xs := sv [s, t]) h
theorem zs4 (l : List At) (i : Nat) (h : i < l.length) : z38 (l.take (i + 1)) = z38 (l.take i) ++ [l[i].kind, l[i].n] := by
 unfold z38; rw [List.take_succ_eq_append_getElem h, List.flatMap_append]; rfl
theorem zvn (l : List At) (i : Nat) (h : i < l.length) : z2q (l.take (i + 1)) = z2q (l.take i) ++ [l[i].name, l[i].s] := by
 unfold z2q; rw [List.take_succ_eq_append_getElem h, List.flatMap_append]; rfl
theorem zap (w : World) (r : EvR) : ∃ wa : World, wa = w.alloc (.cells (evC r) 27) ∧ Below w.heap.size w wa ∧ Blk wa w.heap.size 27 (evC r) := ⟨_, rfl, (Below.refl w.heap.size w).alloc (Nat.le_refl _) _, Blk.new _ _ _⟩
def zbq (l : List ByteArray) (w : World) (e : Ending) (w' : World) : Prop := ∃ v, e = .returned v ∧ Own w' w.heap.size 9 v (sv l) ∧ Below w.heap.size w w'
theorem zhn (r : EvR) (w : World) (h : z1d w r) (hw : z0v r.e) (hf : z1c r.e) :
  Calls Tryz.prog 51 #[evV r] w (zbq (z66 r.e) w) := by
 obtain ⟨wa, hwa, hb0, q1⟩ := zap w r
 have HWA := ya hwa
 clear hwa
 obtain ⟨⟨k0, k1, k2, k3, k4, k5, k6, vec, attrs, nonce⟩, vA, vn, vc, aA, an, ac⟩ := r
 obtain ⟨hvl, hvr, hvc, hvm, har, hac, ham, hno⟩ := h
 obtain ⟨wv, wat, -⟩ := hw
 obtain ⟨fv, fa, ft⟩ := hf
 dsimp only at hvl hvr hvc hvm har hac ham hno wv wat fv fa ft ⊢
 have hal := har.len
 have hcells := z59 q1
 have c7 : wa.cell? ⟨w.heap.size, 7, none⟩ = some (.slice vA vn vc) := hcells 7
 have c8 : wa.cell? ⟨w.heap.size, 8, none⟩ = some (.slice aA an ac) := hcells 8
 have HE := ya (fun W (h : Below w.heap.size w W) => zpm vA vn vc vec W (hvr.below h) (by omega) wv)
 have HNF : Hid (z29 (z38 attrs)) := ya (fun x hx => by
  obtain ⟨a, ha, hx⟩ := List.mem_flatMap.1 hx
  have := wat a ha
  simp only [List.mem_cons, List.not_mem_nil, or_false] at hx
  rcases hx with rfl | rfl
  ·exact this.1
  ·exact this.2)
 have HTF : Hid (∀ s ∈ z2q attrs, s.size ≤ 65536) := ya (fun x hx => by
  obtain ⟨a, ha, hx⟩ := List.mem_flatMap.1 hx
  have := ft a ha
  simp only [List.mem_cons, List.not_mem_nil, or_false] at hx
  rcases hx with rfl | rfl <;> omega)
 have hnl := zf7 attrs
 have htl := zfz attrs
 have HIN := ya (fun A n c W (hr : Rd W A n (iv (z38 attrs))) (hn : n ≤ 1000) => zbb A n c (z38 attrs) W hr hn HNF.out)
 have HST := ya (fun A n c W (hr : Rd W A n (sv (z2q attrs))) (hn : n ≤ 1000) => zwg A n c (z2q attrs) W hr hn HTF.out)
 have HLN : Hid (∀ i, (z38 (attrs.take i)).length ≤ 40 ∧ (z2q (attrs.take i)).length ≤ 40) := ya (fun i => by rw [zf7, zfz, List.length_take]; omega)
 have HNX := ya (zs4 attrs)
 have HTX := ya (zvn attrs)
 have H0 : Hid (z38 (attrs.take 0) = [] ∧ z2q (attrs.take 0) = []) := ya ⟨rfl, rfl⟩
 have HEND : Hid (z38 (attrs.take an) = z38 attrs ∧ z2q (attrs.take an) = z2q attrs) := ya (by rw [List.take_of_length_le (by omega)]; exact ⟨rfl, rfl⟩)
 have HAL := ya hal
 have HAR := ya (fun W (h : Below w.heap.size w W) => har.below h)
 have han : an ≤ 20 := by omega
 unfold z66
 dsimp only
 clear hvr har hvl hal wv wat fv fa ft hnl htl hno hcells
 generalize z21 vec = EV at *
 generalize z21 (z38 attrs) = EN at *
 generalize z68 (z2q attrs) = ET at *
 unfold zbq
 go_enter Tryz.func51, Tryz.ntmps51
 go_upto_region 1 with fail
 change Code.wp _ _ _ _ (w.alloc (.cells (evC ⟨⟨k0, k1, k2, k3, k4, k5, k6, vec, attrs, nonce⟩, vA, vn, vc, aA, an, ac⟩) 27))
 rw [← HWA.out]
 go_wp2_with fail
 go_loopw [3, 4, 10] (fun v3 v4 v10 wr => ∃ i : Nat, v10 = .int .i64 (i : Int) ∧ i ≤ an ∧ Own wr wa.heap.size 3 v3 (iv (z38 (attrs.take i))) ∧ Own wr wa.heap.size 9 v4 (sv (z2q (attrs.take i))) ∧ Below wa.heap.size wa wr) (fun _ _ v10 _ => an - (intOf v10).toNat)
 case atStart => exact ⟨0, rfl, Nat.zero_le _, by rw [H0.out.1]; exact Own.nil _ _ _, by rw [H0.out.2]; exact Own.nil _ _ _, Below.refl _ _⟩
 case round =>
  obtain ⟨i, rfl, hi, o3, o4, hbl⟩ := hrel
  by_cases hin : i < an
  ·have dj : decide ((i : Int) < (an : Int)) = true := by rw [decide_eq_true_eq]; omega
   have hix : 0 ≤ (i : Int) ∧ (i : Int) < (an : Int) := by omega
   have hil : i < attrs.length := by rw [HAL.out]; exact hin
   have HNI := ya (HNX.out i hil)
   have HTI := ya (HTX.out i hil)
   obtain ⟨ad, hA, hce⟩ := (HAR.out _ (yb hb0 hbl)).elem hil
   have hl40 := HLN.out i
   generalize attrs[i] = a at *
   subst hA
   clear hil
   go_upto_region 6 with (first
    | ((with_reducible show sl 13); refine yw (us := atL a) rfl rfl rfl aggAt (by rw [zlk, zdr]) hce ?_)
    | ((with_reducible show sl 6); refine z1p (z := atC ⟨⟨#[]⟩, 0, 0, ⟨#[]⟩⟩) (vs := atC a) rfl rfl rfl rfl (zxh _) (fun _ => rfl) (fun _ => rfl) rfl (by rw [zlk]; rfl) (zs9 _) ?_; intro w6 g6 hg6 b6 hb6 lt6; clear hg6 lt6))
   replace o3 := o3.below hb6
   replace o4 := o4.below hb6
   have hB : Below wa.heap.size wa w6.drew := (yb hbl hb6).drew
   have b6' : Blk w6.drew g6 100 (atC a) := b6.below (Below.refl _ _).drew
   replace o3 := Own.below o3 (show Below w6.heap.size w6 w6.drew from (Below.refl _ _).drew)
   replace o4 := Own.below o4 (show Below w6.heap.size w6 w6.drew from (Below.refl _ _).drew)
   clear b6 hce hbl hb6
   refine z2j (S := (fun W => Below wa.heap.size wa W ∧ Blk W g6 100 (atC a))) 15 (by kernel_rfl) ?_
   refine WpT.tk 0 (⟨hB, b6'⟩) ?_
   simp only [nrm]
   refine WpT.tk 1 (⟨hB, b6'⟩) ?_
   simp only [nrm]
   refine WpT.tl 2 rfl (za8 rfl rfl rfl (by kernel_rfl) (fun W h => by have := h.2.cell 1; simpa using this)) (⟨hB, b6'⟩) ?_
   simp only [nrm]
   refine WpT.tk 3 (⟨hB, b6'⟩) ?_
   simp only [nrm]
   refine WpT.tl 4 rfl (za8 rfl rfl rfl (by kernel_rfl) (fun W h => by have := h.2.cell 2; simpa using this)) (⟨hB, b6'⟩) ?_
   simp only [nrm]
   refine WpT.tk 7 (⟨hB, b6'⟩) ?_
   simp only [nrm]
   refine WpT.tk 8 (⟨hB, b6'⟩) ?_
   simp only [nrm]
   refine WpT.tl 9 rfl (za8 rfl rfl rfl (by kernel_rfl) (fun W h => by have := h.2.cell 0; simpa using this)) (⟨hB, b6'⟩) ?_
   simp only [nrm]
   refine WpT.tk 10 (⟨hB, b6'⟩) ?_
   simp only [nrm]
   refine WpT.tl 11 rfl (za8 rfl rfl rfl (by kernel_rfl) (fun W h => by have := h.2.cell 3; simpa using this)) (⟨hB, b6'⟩) ?_
   simp only [nrm]
   refine WpT.fork (i := 5) (j := 12) rfl rfl (by kernel_rfl) (fun K hK => ?_) (fun K hK => ?_)
   ·refine zge (p := a.kind) (q := a.n) rfl (by rfl) (by rfl) ?_; intro w5 g5 q5 hb5; replace b6' := b6'.below hb5; replace o3 := Own.below o3 hb5; replace o4 := Own.below o4 hb5; (try replace q12 := q12.below hb5); replace hB := yb hB hb5
    refine hK _ _ (⟨hB, b6'⟩) ?_; clear hK K; try simp only [nrm]
    refine WpT.fork (i := 6) (j := 12) rfl rfl (by kernel_rfl) (fun K hK => ?_) (fun K hK => ?_)
    ·refine z8v rfl zed (by rfl) o3 (by rfl) (zd0 q5) (by intro u hu; simp [iv] at hu; rcases hu with rfl | rfl <;> rfl) (by rw [zcj]; omega) hB.size ?_; intro v3' wx o3' hgx hbx _; replace b6' := z5s o3 hgx b6' (by decide); have o4 : Own wx wa.heap.size 9 u4 (sv (z2q (attrs.take i))) := z9d o3 hgx o4 (by decide); (try replace q12 := z5s o3 hgx q12 (by decide)); replace hB := hB.trans hbx
     refine hK _ _ (⟨hB, b6'⟩) ?_; clear hK K; try simp only [nrm]
     refine WpT.on 12 rfl (fun K hK => ?_)
     refine zgf (s := a.name) (t := a.s) rfl (by rfl) (by rfl) ?_; intro w7 g7 q12 hb7; replace b6' := b6'.below hb7; (try replace o3 := Own.below o3 hb7); (try replace o3' := Own.below o3' hb7); replace o4 := Own.below o4 hb7; (try replace q5 := q5.below hb7); replace hB := yb hB hb7
     refine hK _ _ (⟨hB, b6'⟩) ?_; clear hK K; try simp only [nrm]
     refine WpT.on 13 rfl (fun K hK => ?_)
     refine z8v rfl z8h (by rfl) o4 (by rfl) (zfg q12) (by intro u hu; simp [sv] at hu; rcases hu with rfl | rfl <;> rfl) (by rw [z5u]; omega) hB.size ?_; intro v4' wy o4' hgy hby _; replace b6' := z5s o4 hgy b6' (by decide); have o3' : Own wy wa.heap.size 3 v3' (iv (z38 (attrs.take i)) ++ iv [a.kind, a.n]) := z9d o4 hgy o3' (by decide); replace hB := hB.trans hby
     refine hK _ _ (⟨hB, b6'⟩) ?_; clear hK K; try simp only [nrm]
     refine WpT.on 14 rfl (fun K hK => ?_)
     go_simp; (try go_bits)
     refine hK _ _ (⟨hB, b6'⟩) ?_; clear hK K; try simp only [nrm]
     refine WpT.ta 15 rfl (fun K hK => ?_)
     go_simp; (try go_bits)
     refine hK _ _ ?_; clear hK K; try simp only [nrm]
     refine WpT.done (by kernel_rfl) ?_ _
     go_wp2_with fail; exact ⟨⟨i + 1, by go_num, by omega, by rw [HNI.out]; unfold iv at o3' ⊢; rw [List.map_append]; exact o3', by rw [HTI.out]; unfold sv at o4' ⊢; rw [List.map_append]; exact o4', hB⟩, by simp [intOf]; omega⟩
    ·refine zgf (s := a.name) (t := a.s) rfl (by rfl) (by rfl) ?_; intro w7 g7 q12 hb7; replace b6' := b6'.below hb7; (try replace o3 := Own.below o3 hb7); (try replace o3' := Own.below o3' hb7); replace o4 := Own.below o4 hb7; (try replace q5 := q5.below hb7); replace hB := yb hB hb7
     refine hK _ _ (⟨hB, b6'⟩) ?_; clear hK K; try simp only [nrm]
     refine WpT.on 6 rfl (fun K hK => ?_)
     refine z8v rfl zed (by rfl) o3 (by rfl) (zd0 q5) (by intro u hu; simp [iv] at hu; rcases hu with rfl | rfl <;> rfl) (by rw [zcj]; omega) hB.size ?_; intro v3' wx o3' hgx hbx _; replace b6' := z5s o3 hgx b6' (by decide); have o4 : Own wx wa.heap.size 9 u4 (sv (z2q (attrs.take i))) := z9d o3 hgx o4 (by decide); (try replace q12 := z5s o3 hgx q12 (by decide)); replace hB := hB.trans hbx
     refine hK _ _ (⟨hB, b6'⟩) ?_; clear hK K; try simp only [nrm]
     refine WpT.on 13 rfl (fun K hK => ?_)
     refine z8v rfl z8h (by rfl) o4 (by rfl) (zfg q12) (by intro u hu; simp [sv] at hu; rcases hu with rfl | rfl <;> rfl) (by rw [z5u]; omega) hB.size ?_; intro v4' wy o4' hgy hby _; replace b6' := z5s o4 hgy b6' (by decide); have o3' : Own wy wa.heap.size 3 v3' (iv (z38 (attrs.take i)) ++ iv [a.kind, a.n]) := z9d o4 hgy o3' (by decide); replace hB := hB.trans hby
     refine hK _ _ (⟨hB, b6'⟩) ?_; clear hK K; try simp only [nrm]
     refine WpT.on 14 rfl (fun K hK => ?_)
     go_simp; (try go_bits)
     refine hK _ _ (⟨hB, b6'⟩) ?_; clear hK K; try simp only [nrm]
     refine WpT.ta 15 rfl (fun K hK => ?_)
     go_simp; (try go_bits)
     refine hK _ _ ?_; clear hK K; try simp only [nrm]
     refine WpT.done (by kernel_rfl) ?_ _
     go_wp2_with fail; exact ⟨⟨i + 1, by go_num, by omega, by rw [HNI.out]; unfold iv at o3' ⊢; rw [List.map_append]; exact o3', by rw [HTI.out]; unfold sv at o4' ⊢; rw [List.map_append]; exact o4', hB⟩, by simp [intOf]; omega⟩
   ·refine zgf (s := a.name) (t := a.s) rfl (by rfl) (by rfl) ?_; intro w7 g7 q12 hb7; replace b6' := b6'.below hb7; (try replace o3 := Own.below o3 hb7); (try replace o3' := Own.below o3' hb7); replace o4 := Own.below o4 hb7; (try replace q5 := q5.below hb7); replace hB := yb hB hb7
    refine hK _ _ (⟨hB, b6'⟩) ?_; clear hK K; try simp only [nrm]
    refine WpT.on 5 rfl (fun K hK => ?_)
    refine zge (p := a.kind) (q := a.n) rfl (by rfl) (by rfl) ?_; intro w5 g5 q5 hb5; replace b6' := b6'.below hb5; replace o3 := Own.below o3 hb5; replace o4 := Own.below o4 hb5; (try replace q12 := q12.below hb5); replace hB := yb hB hb5
    refine hK _ _ (⟨hB, b6'⟩) ?_; clear hK K; try simp only [nrm]
    refine WpT.on 6 rfl (fun K hK => ?_)
    refine z8v rfl zed (by rfl) o3 (by rfl) (zd0 q5) (by intro u hu; simp [iv] at hu; rcases hu with rfl | rfl <;> rfl) (by rw [zcj]; omega) hB.size ?_; intro v3' wx o3' hgx hbx _; replace b6' := z5s o3 hgx b6' (by decide); have o4 : Own wx wa.heap.size 9 u4 (sv (z2q (attrs.take i))) := z9d o3 hgx o4 (by decide); (try replace q12 := z5s o3 hgx q12 (by decide)); replace hB := hB.trans hbx
    refine hK _ _ (⟨hB, b6'⟩) ?_; clear hK K; try simp only [nrm]
    refine WpT.on 13 rfl (fun K hK => ?_)
    refine z8v rfl z8h (by rfl) o4 (by rfl) (zfg q12) (by intro u hu; simp [sv] at hu; rcases hu with rfl | rfl <;> rfl) (by rw [z5u]; omega) hB.size ?_; intro v4' wy o4' hgy hby _; replace b6' := z5s o4 hgy b6' (by decide); have o3' : Own wy wa.heap.size 3 v3' (iv (z38 (attrs.take i)) ++ iv [a.kind, a.n]) := z9d o4 hgy o3' (by decide); replace hB := hB.trans hby
    refine hK _ _ (⟨hB, b6'⟩) ?_; clear hK K; try simp only [nrm]
    refine WpT.on 14 rfl (fun K hK => ?_)
    go_simp; (try go_bits)
    refine hK _ _ (⟨hB, b6'⟩) ?_; clear hK K; try simp only [nrm]
    refine WpT.ta 15 rfl (fun K hK => ?_)
    go_simp; (try go_bits)
    refine hK _ _ ?_; clear hK K; try simp only [nrm]
    refine WpT.done (by kernel_rfl) ?_ _
    go_wp2_with fail; exact ⟨⟨i + 1, by go_num, by omega, by rw [HNI.out]; unfold iv at o3' ⊢; rw [List.map_append]; exact o3', by rw [HTI.out]; unfold sv at o4' ⊢; rw [List.map_append]; exact o4', hB⟩, by simp [intOf]; omega⟩
  ·have dj : decide ((i : Int) < (an : Int)) = false := by rw [decide_eq_false_iff_not]; omega
   obtain rfl : an = i := by omega
   rw [HEND.out.1] at o3
   rw [HEND.out.2] at o4
   obtain ⟨A3, n3, c3, rfl, hn3, -, -, r3⟩ := o3.formN
   obtain ⟨A4, n4, c4, rfl, hn4, -, -, r4⟩ := o4.formN
   have hn3' : n3 ≤ 1000 := by have := hn3.out; rw [zcj] at this; have := HLN.out an; rw [HEND.out.1] at this; omega
   have hn4' : n4 ≤ 1000 := by have := hn4.out; rw [z5u] at this; have := HLN.out an; rw [HEND.out.2] at this; omega
   clear o3 o4 hn3 hn4
   have c7' : wr.cell? ⟨w.heap.size, 7, none⟩ = some (.slice vA vn vc) := cell_later hbl c7
   have HR3 := ya (fun W (h : Below wr.heap.size wr W) => HIN.out A3 n3 c3 W (r3.below h) hn3')
   have HR4 := ya (fun W (h : Below wr.heap.size wr W) => HST.out A4 n4 c4 W (r4.below h) hn4')
   replace hb0 := yb hb0 hbl
   clear c7 c8 hbl r3 r4 q1
   have hS : Below wr.heap.size wr wr.drew := (Below.refl _ _).drew
   go_upto_region 8 with fail
   refine yz 11 (by kernel_rfl) ?_
   refine WpT.tk 0 hS ?_
   simp only [nrm]
   refine WpT.tl 1 rfl (yh rfl rfl rfl (by kernel_rfl) c7') hS ?_
   simp only [nrm]
   refine WpT.tk 4 hS ?_
   simp only [nrm]
   refine WpT.tk 7 hS ?_
   simp only [nrm]
   refine WpT.on 2 rfl (fun K hK => ?_)
   go_simp; refine (HE.out _ (yb hb0 hS)).mono ?_; rintro e w2 ⟨v2, rfl, o2, hb2⟩; obtain ⟨A2, n2, c2, rfl, -, -, -, r2⟩ := o2.formN; clear o2; replace hS := yb hS hb2
   refine hK _ _ hS ?_; clear hK K; try simp only [nrm]
   refine WpT.fork (i := 3) (j := 5) rfl rfl (by kernel_rfl) (fun K hK => ?_) (fun K hK => ?_)
   ·refine z0g rfl z06 (by kernel_rfl) (by rfl) r2 ?_
    refine hK _ _ hS ?_; clear hK K; try simp only [nrm]
    refine WpT.on 5 rfl (fun K hK => ?_)
    go_simp; refine (HR3.out _ hS).mono ?_; rintro e w5 ⟨v5, rfl, o5, hb5⟩; obtain ⟨A5, n5, c5, rfl, -, -, -, r5⟩ := o5.formN; clear o5; (try replace r2 := r2.below hb5); replace hS := yb hS hb5
    refine hK _ _ hS ?_; clear hK K; try simp only [nrm]
    refine WpT.fork (i := 6) (j := 8) rfl rfl (by kernel_rfl) (fun K hK => ?_) (fun K hK => ?_)
    ·refine z0g rfl z06 (by kernel_rfl) (by rfl) r5 ?_
     refine hK _ _ hS ?_; clear hK K; try simp only [nrm]
     refine WpT.on 8 rfl (fun K hK => ?_)
     go_simp; refine (HR4.out _ hS).mono ?_; rintro e w8 ⟨v8, rfl, o8, hb8⟩; obtain ⟨A8, n8, c8, rfl, -, -, -, r8⟩ := o8.formN; clear o8; (try replace r2 := r2.below hb8); (try replace r5 := r5.below hb8); replace hS := yb hS hb8
     refine hK _ _ hS ?_; clear hK K; try simp only [nrm]
     refine WpT.on 9 rfl (fun K hK => ?_)
     refine z0g rfl z06 (by kernel_rfl) (by rfl) r8 ?_
     refine hK _ _ hS ?_; clear hK K; try simp only [nrm]
     refine WpT.on 10 rfl (fun K hK => ?_)
     refine z4g rfl (by rfl) (by rfl) (by rfl) ?_; intro w9 g9 o9 hb9; have o9' := Own.lower o9 hS.size; replace hS := yb hS hb9
     refine hK _ _ hS ?_; clear hK K; try simp only [nrm]
     refine WpT.ta 11 rfl (fun K hK => ?_)
     go_simp; (try go_bits)
     refine hK _ _ ?_; clear hK K; try simp only [nrm]
     refine WpT.done (by kernel_rfl) ?_ _
     go_wp2_with fail; go_ret; exact ⟨_, rfl, Own.lower o9' hb0.size, yb hb0 hS⟩
    ·go_simp; refine (HR4.out _ hS).mono ?_; rintro e w8 ⟨v8, rfl, o8, hb8⟩; obtain ⟨A8, n8, c8, rfl, -, -, -, r8⟩ := o8.formN; clear o8; (try replace r2 := r2.below hb8); (try replace r5 := r5.below hb8); replace hS := yb hS hb8
     refine hK _ _ hS ?_; clear hK K; try simp only [nrm]
     refine WpT.fork (i := 6) (j := 9) rfl rfl (by kernel_rfl) (fun K hK => ?_) (fun K hK => ?_)
     ·refine z0g rfl z06 (by kernel_rfl) (by rfl) r5 ?_
      refine hK _ _ hS ?_; clear hK K; try simp only [nrm]
      refine WpT.on 9 rfl (fun K hK => ?_)
      refine z0g rfl z06 (by kernel_rfl) (by rfl) r8 ?_
      refine hK _ _ hS ?_; clear hK K; try simp only [nrm]
      refine WpT.on 10 rfl (fun K hK => ?_)
      refine z4g rfl (by rfl) (by rfl) (by rfl) ?_; intro w9 g9 o9 hb9; have o9' := Own.lower o9 hS.size; replace hS := yb hS hb9
      refine hK _ _ hS ?_; clear hK K; try simp only [nrm]
      refine WpT.ta 11 rfl (fun K hK => ?_)
      go_simp; (try go_bits)
      refine hK _ _ ?_; clear hK K; try simp only [nrm]
      refine WpT.done (by kernel_rfl) ?_ _
      go_wp2_with fail; go_ret; exact ⟨_, rfl, Own.lower o9' hb0.size, yb hb0 hS⟩
     ·refine z0g rfl z06 (by kernel_rfl) (by rfl) r8 ?_
      refine hK _ _ hS ?_; clear hK K; try simp only [nrm]
      refine WpT.on 6 rfl (fun K hK => ?_)
      refine z0g rfl z06 (by kernel_rfl) (by rfl) r5 ?_
      refine hK _ _ hS ?_; clear hK K; try simp only [nrm]
      refine WpT.on 10 rfl (fun K hK => ?_)
      refine z4g rfl (by rfl) (by rfl) (by rfl) ?_; intro w9 g9 o9 hb9; have o9' := Own.lower o9 hS.size; replace hS := yb hS hb9
      refine hK _ _ hS ?_; clear hK K; try simp only [nrm]
      refine WpT.ta 11 rfl (fun K hK => ?_)
      go_simp; (try go_bits)
      refine hK _ _ ?_; clear hK K; try simp only [nrm]
      refine WpT.done (by kernel_rfl) ?_ _
      go_wp2_with fail; go_ret; exact ⟨_, rfl, Own.lower o9' hb0.size, yb hb0 hS⟩
   ·go_simp; refine (HR3.out _ hS).mono ?_; rintro e w5 ⟨v5, rfl, o5, hb5⟩; obtain ⟨A5, n5, c5, rfl, -, -, -, r5⟩ := o5.formN; clear o5; (try replace r2 := r2.below hb5); replace hS := yb hS hb5
    refine hK _ _ hS ?_; clear hK K; try simp only [nrm]
    refine WpT.fork3 (i := 3) (j := 6) (k := 8) rfl rfl rfl (by kernel_rfl) (fun K hK => ?_) (fun K hK => ?_) (fun K hK => ?_)
    ·refine z0g rfl z06 (by kernel_rfl) (by rfl) r2 ?_
     refine hK _ _ hS ?_; clear hK K; try simp only [nrm]
     refine WpT.fork (i := 6) (j := 8) rfl rfl (by kernel_rfl) (fun K hK => ?_) (fun K hK => ?_)
     ·refine z0g rfl z06 (by kernel_rfl) (by rfl) r5 ?_
      refine hK _ _ hS ?_; clear hK K; try simp only [nrm]
      refine WpT.on 8 rfl (fun K hK => ?_)
      go_simp; refine (HR4.out _ hS).mono ?_; rintro e w8 ⟨v8, rfl, o8, hb8⟩; obtain ⟨A8, n8, c8, rfl, -, -, -, r8⟩ := o8.formN; clear o8; (try replace r2 := r2.below hb8); (try replace r5 := r5.below hb8); replace hS := yb hS hb8
      refine hK _ _ hS ?_; clear hK K; try simp only [nrm]
      refine WpT.on 9 rfl (fun K hK => ?_)
      refine z0g rfl z06 (by kernel_rfl) (by rfl) r8 ?_
      refine hK _ _ hS ?_; clear hK K; try simp only [nrm]
      refine WpT.on 10 rfl (fun K hK => ?_)
      refine z4g rfl (by rfl) (by rfl) (by rfl) ?_; intro w9 g9 o9 hb9; have o9' := Own.lower o9 hS.size; replace hS := yb hS hb9
      refine hK _ _ hS ?_; clear hK K; try simp only [nrm]
      refine WpT.ta 11 rfl (fun K hK => ?_)
      go_simp; (try go_bits)
      refine hK _ _ ?_; clear hK K; try simp only [nrm]
      refine WpT.done (by kernel_rfl) ?_ _
      go_wp2_with fail; go_ret; exact ⟨_, rfl, Own.lower o9' hb0.size, yb hb0 hS⟩
     ·go_simp; refine (HR4.out _ hS).mono ?_; rintro e w8 ⟨v8, rfl, o8, hb8⟩; obtain ⟨A8, n8, c8, rfl, -, -, -, r8⟩ := o8.formN; clear o8; (try replace r2 := r2.below hb8); (try replace r5 := r5.below hb8); replace hS := yb hS hb8
      refine hK _ _ hS ?_; clear hK K; try simp only [nrm]
      refine WpT.fork (i := 6) (j := 9) rfl rfl (by kernel_rfl) (fun K hK => ?_) (fun K hK => ?_)
      ·refine z0g rfl z06 (by kernel_rfl) (by rfl) r5 ?_
       refine hK _ _ hS ?_; clear hK K; try simp only [nrm]
       refine WpT.on 9 rfl (fun K hK => ?_)
       refine z0g rfl z06 (by kernel_rfl) (by rfl) r8 ?_
       refine hK _ _ hS ?_; clear hK K; try simp only [nrm]
       refine WpT.on 10 rfl (fun K hK => ?_)
       refine z4g rfl (by rfl) (by rfl) (by rfl) ?_; intro w9 g9 o9 hb9; have o9' := Own.lower o9 hS.size; replace hS := yb hS hb9
       refine hK _ _ hS ?_; clear hK K; try simp only [nrm]
       refine WpT.ta 11 rfl (fun K hK => ?_)
       go_simp; (try go_bits)
       refine hK _ _ ?_; clear hK K; try simp only [nrm]
       refine WpT.done (by kernel_rfl) ?_ _
       go_wp2_with fail; go_ret; exact ⟨_, rfl, Own.lower o9' hb0.size, yb hb0 hS⟩
      ·refine z0g rfl z06 (by kernel_rfl) (by rfl) r8 ?_
       refine hK _ _ hS ?_; clear hK K; try simp only [nrm]
       refine WpT.on 6 rfl (fun K hK => ?_)
       refine z0g rfl z06 (by kernel_rfl) (by rfl) r5 ?_
       refine hK _ _ hS ?_; clear hK K; try simp only [nrm]
       refine WpT.on 10 rfl (fun K hK => ?_)
       refine z4g rfl (by rfl) (by rfl) (by rfl) ?_; intro w9 g9 o9 hb9; have o9' := Own.lower o9 hS.size; replace hS := yb hS hb9
       refine hK _ _ hS ?_; clear hK K; try simp only [nrm]
       refine WpT.ta 11 rfl (fun K hK => ?_)
       go_simp; (try go_bits)
       refine hK _ _ ?_; clear hK K; try simp only [nrm]
       refine WpT.done (by kernel_rfl) ?_ _
       go_wp2_with fail; go_ret; exact ⟨_, rfl, Own.lower o9' hb0.size, yb hb0 hS⟩
    ·refine z0g rfl z06 (by kernel_rfl) (by rfl) r5 ?_
     refine hK _ _ hS ?_; clear hK K; try simp only [nrm]
     refine WpT.fork (i := 3) (j := 8) rfl rfl (by kernel_rfl) (fun K hK => ?_) (fun K hK => ?_)
     ·refine z0g rfl z06 (by kernel_rfl) (by rfl) r2 ?_
      refine hK _ _ hS ?_; clear hK K; try simp only [nrm]
      refine WpT.on 8 rfl (fun K hK => ?_)
      go_simp; refine (HR4.out _ hS).mono ?_; rintro e w8 ⟨v8, rfl, o8, hb8⟩; obtain ⟨A8, n8, c8, rfl, -, -, -, r8⟩ := o8.formN; clear o8; (try replace r2 := r2.below hb8); (try replace r5 := r5.below hb8); replace hS := yb hS hb8
      refine hK _ _ hS ?_; clear hK K; try simp only [nrm]
      refine WpT.on 9 rfl (fun K hK => ?_)
      refine z0g rfl z06 (by kernel_rfl) (by rfl) r8 ?_
      refine hK _ _ hS ?_; clear hK K; try simp only [nrm]
      refine WpT.on 10 rfl (fun K hK => ?_)
      refine z4g rfl (by rfl) (by rfl) (by rfl) ?_; intro w9 g9 o9 hb9; have o9' := Own.lower o9 hS.size; replace hS := yb hS hb9
      refine hK _ _ hS ?_; clear hK K; try simp only [nrm]
      refine WpT.ta 11 rfl (fun K hK => ?_)
      go_simp; (try go_bits)
      refine hK _ _ ?_; clear hK K; try simp only [nrm]
      refine WpT.done (by kernel_rfl) ?_ _
      go_wp2_with fail; go_ret; exact ⟨_, rfl, Own.lower o9' hb0.size, yb hb0 hS⟩
     ·go_simp; refine (HR4.out _ hS).mono ?_; rintro e w8 ⟨v8, rfl, o8, hb8⟩; obtain ⟨A8, n8, c8, rfl, -, -, -, r8⟩ := o8.formN; clear o8; (try replace r2 := r2.below hb8); (try replace r5 := r5.below hb8); replace hS := yb hS hb8
      refine hK _ _ hS ?_; clear hK K; try simp only [nrm]
      refine WpT.fork (i := 3) (j := 9) rfl rfl (by kernel_rfl) (fun K hK => ?_) (fun K hK => ?_)
      ·refine z0g rfl z06 (by kernel_rfl) (by rfl) r2 ?_
       refine hK _ _ hS ?_; clear hK K; try simp only [nrm]
       refine WpT.on 9 rfl (fun K hK => ?_)
       refine z0g rfl z06 (by kernel_rfl) (by rfl) r8 ?_
       refine hK _ _ hS ?_; clear hK K; try simp only [nrm]
       refine WpT.on 10 rfl (fun K hK => ?_)
       refine z4g rfl (by rfl) (by rfl) (by rfl) ?_; intro w9 g9 o9 hb9; have o9' := Own.lower o9 hS.size; replace hS := yb hS hb9
       refine hK _ _ hS ?_; clear hK K; try simp only [nrm]
       refine WpT.ta 11 rfl (fun K hK => ?_)
       go_simp; (try go_bits)
       refine hK _ _ ?_; clear hK K; try simp only [nrm]
       refine WpT.done (by kernel_rfl) ?_ _
       go_wp2_with fail; go_ret; exact ⟨_, rfl, Own.lower o9' hb0.size, yb hb0 hS⟩
      ·refine z0g rfl z06 (by kernel_rfl) (by rfl) r8 ?_
       refine hK _ _ hS ?_; clear hK K; try simp only [nrm]
       refine WpT.on 3 rfl (fun K hK => ?_)
       refine z0g rfl z06 (by kernel_rfl) (by rfl) r2 ?_
       refine hK _ _ hS ?_; clear hK K; try simp only [nrm]
       refine WpT.on 10 rfl (fun K hK => ?_)
       refine z4g rfl (by rfl) (by rfl) (by rfl) ?_; intro w9 g9 o9 hb9; have o9' := Own.lower o9 hS.size; replace hS := yb hS hb9
       refine hK _ _ hS ?_; clear hK K; try simp only [nrm]
       refine WpT.ta 11 rfl (fun K hK => ?_)
       go_simp; (try go_bits)
       refine hK _ _ ?_; clear hK K; try simp only [nrm]
       refine WpT.done (by kernel_rfl) ?_ _
       go_wp2_with fail; go_ret; exact ⟨_, rfl, Own.lower o9' hb0.size, yb hb0 hS⟩
    ·go_simp; refine (HR4.out _ hS).mono ?_; rintro e w8 ⟨v8, rfl, o8, hb8⟩; obtain ⟨A8, n8, c8, rfl, -, -, -, r8⟩ := o8.formN; clear o8; (try replace r2 := r2.below hb8); (try replace r5 := r5.below hb8); replace hS := yb hS hb8
     refine hK _ _ hS ?_; clear hK K; try simp only [nrm]
     refine WpT.fork3 (i := 3) (j := 6) (k := 9) rfl rfl rfl (by kernel_rfl) (fun K hK => ?_) (fun K hK => ?_) (fun K hK => ?_)
     ·refine z0g rfl z06 (by kernel_rfl) (by rfl) r2 ?_
      refine hK _ _ hS ?_; clear hK K; try simp only [nrm]
      refine WpT.fork (i := 6) (j := 9) rfl rfl (by kernel_rfl) (fun K hK => ?_) (fun K hK => ?_)
      ·refine z0g rfl z06 (by kernel_rfl) (by rfl) r5 ?_
       refine hK _ _ hS ?_; clear hK K; try simp only [nrm]
       refine WpT.on 9 rfl (fun K hK => ?_)
       refine z0g rfl z06 (by kernel_rfl) (by rfl) r8 ?_
       refine hK _ _ hS ?_; clear hK K; try simp only [nrm]
       refine WpT.on 10 rfl (fun K hK => ?_)
       refine z4g rfl (by rfl) (by rfl) (by rfl) ?_; intro w9 g9 o9 hb9; have o9' := Own.lower o9 hS.size; replace hS := yb hS hb9
       refine hK _ _ hS ?_; clear hK K; try simp only [nrm]
       refine WpT.ta 11 rfl (fun K hK => ?_)
       go_simp; (try go_bits)
       refine hK _ _ ?_; clear hK K; try simp only [nrm]
       refine WpT.done (by kernel_rfl) ?_ _
       go_wp2_with fail; go_ret; exact ⟨_, rfl, Own.lower o9' hb0.size, yb hb0 hS⟩
      ·refine z0g rfl z06 (by kernel_rfl) (by rfl) r8 ?_
       refine hK _ _ hS ?_; clear hK K; try simp only [nrm]
       refine WpT.on 6 rfl (fun K hK => ?_)
       refine z0g rfl z06 (by kernel_rfl) (by rfl) r5 ?_
       refine hK _ _ hS ?_; clear hK K; try simp only [nrm]
       refine WpT.on 10 rfl (fun K hK => ?_)
       refine z4g rfl (by rfl) (by rfl) (by rfl) ?_; intro w9 g9 o9 hb9; have o9' := Own.lower o9 hS.size; replace hS := yb hS hb9
       refine hK _ _ hS ?_; clear hK K; try simp only [nrm]
       refine WpT.ta 11 rfl (fun K hK => ?_)
       go_simp; (try go_bits)
       refine hK _ _ ?_; clear hK K; try simp only [nrm]
       refine WpT.done (by kernel_rfl) ?_ _
       go_wp2_with fail; go_ret; exact ⟨_, rfl, Own.lower o9' hb0.size, yb hb0 hS⟩
     ·refine z0g rfl z06 (by kernel_rfl) (by rfl) r5 ?_
      refine hK _ _ hS ?_; clear hK K; try simp only [nrm]
      refine WpT.fork (i := 3) (j := 9) rfl rfl (by kernel_rfl) (fun K hK => ?_) (fun K hK => ?_)
      ·refine z0g rfl z06 (by kernel_rfl) (by rfl) r2 ?_
       refine hK _ _ hS ?_; clear hK K; try simp only [nrm]
       refine WpT.on 9 rfl (fun K hK => ?_)
       refine z0g rfl z06 (by kernel_rfl) (by rfl) r8 ?_
       refine hK _ _ hS ?_; clear hK K; try simp only [nrm]
       refine WpT.on 10 rfl (fun K hK => ?_)
       refine z4g rfl (by rfl) (by rfl) (by rfl) ?_; intro w9 g9 o9 hb9; have o9' := Own.lower o9 hS.size; replace hS := yb hS hb9
       refine hK _ _ hS ?_; clear hK K; try simp only [nrm]
       refine WpT.ta 11 rfl (fun K hK => ?_)
       go_simp; (try go_bits)
       refine hK _ _ ?_; clear hK K; try simp only [nrm]
       refine WpT.done (by kernel_rfl) ?_ _
       go_wp2_with fail; go_ret; exact ⟨_, rfl, Own.lower o9' hb0.size, yb hb0 hS⟩
      ·refine z0g rfl z06 (by kernel_rfl) (by rfl) r8 ?_
       refine hK _ _ hS ?_; clear hK K; try simp only [nrm]
       refine WpT.on 3 rfl (fun K hK => ?_)
       refine z0g rfl z06 (by kernel_rfl) (by rfl) r2 ?_
       refine hK _ _ hS ?_; clear hK K; try simp only [nrm]
       refine WpT.on 10 rfl (fun K hK => ?_)
       refine z4g rfl (by rfl) (by rfl) (by rfl) ?_; intro w9 g9 o9 hb9; have o9' := Own.lower o9 hS.size; replace hS := yb hS hb9
       refine hK _ _ hS ?_; clear hK K; try simp only [nrm]
       refine WpT.ta 11 rfl (fun K hK => ?_)
       go_simp; (try go_bits)
       refine hK _ _ ?_; clear hK K; try simp only [nrm]
       refine WpT.done (by kernel_rfl) ?_ _
       go_wp2_with fail; go_ret; exact ⟨_, rfl, Own.lower o9' hb0.size, yb hb0 hS⟩
     ·refine z0g rfl z06 (by kernel_rfl) (by rfl) r8 ?_
      refine hK _ _ hS ?_; clear hK K; try simp only [nrm]
      refine WpT.fork (i := 3) (j := 6) rfl rfl (by kernel_rfl) (fun K hK => ?_) (fun K hK => ?_)
      ·refine z0g rfl z06 (by kernel_rfl) (by rfl) r2 ?_
       refine hK _ _ hS ?_; clear hK K; try simp only [nrm]
       refine WpT.on 6 rfl (fun K hK => ?_)
       refine z0g rfl z06 (by kernel_rfl) (by rfl) r5 ?_
       refine hK _ _ hS ?_; clear hK K; try simp only [nrm]
       refine WpT.on 10 rfl (fun K hK => ?_)
       refine z4g rfl (by rfl) (by rfl) (by rfl) ?_; intro w9 g9 o9 hb9; have o9' := Own.lower o9 hS.size; replace hS := yb hS hb9
       refine hK _ _ hS ?_; clear hK K; try simp only [nrm]
       refine WpT.ta 11 rfl (fun K hK => ?_)
       go_simp; (try go_bits)
       refine hK _ _ ?_; clear hK K; try simp only [nrm]
       refine WpT.done (by kernel_rfl) ?_ _
       go_wp2_with fail; go_ret; exact ⟨_, rfl, Own.lower o9' hb0.size, yb hb0 hS⟩
      ·refine z0g rfl z06 (by kernel_rfl) (by rfl) r5 ?_
       refine hK _ _ hS ?_; clear hK K; try simp only [nrm]
       refine WpT.on 3 rfl (fun K hK => ?_)
       refine z0g rfl z06 (by kernel_rfl) (by rfl) r2 ?_
       refine hK _ _ hS ?_; clear hK K; try simp only [nrm]
       refine WpT.on 10 rfl (fun K hK => ?_)
       refine z4g rfl (by rfl) (by rfl) (by rfl) ?_; intro w9 g9 o9 hb9; have o9' := Own.lower o9 hS.size; replace hS := yb hS hb9
       refine hK _ _ hS ?_; clear hK K; try simp only [nrm]
       refine WpT.ta 11 rfl (fun K hK => ?_)
       go_simp; (try go_bits)
       refine hK _ _ ?_; clear hK K; try simp only [nrm]
       refine WpT.done (by kernel_rfl) ?_ _
       go_wp2_with fail; go_ret; exact ⟨_, rfl, Own.lower o9' hb0.size, yb hb0 hS⟩
end
section
open Go.RowKit Exch Merk Ring Sha
def z4t (vec : List Int) (attrs : List At) : List ByteArray := [⟨(z21 vec).toArray⟩, ⟨(z21 (z38 attrs)).toArray⟩, ⟨(z68 (z2q attrs)).toArray⟩]
theorem z9g (l : List Int) : (z21 l).length ≤ 10 + l.length * 10 := by
 unfold z21
 rw [List.length_append]
 have := z7u l.length
 have := zci l
 omega
theorem zho {e : Ev} (h : z1c e) : ∀ s ∈ z66 e, s.size ≤ 65536 := by
 intro s hs
 have h1 := z9g e.vec
 have h2 := z9g (z38 e.attrs)
 have h3 := zf7 e.attrs
 have h4 := zfz e.attrs
 have h5 : ∀ s ∈ z2q e.attrs, s.size ≤ 200 := fun x hx => by
  obtain ⟨a, ha, hx⟩ := List.mem_flatMap.1 hx
  have := h.texts a ha
  simp only [List.mem_cons, List.not_mem_nil, or_false] at hx
  rcases hx with rfl | rfl
  ·exact this.1
  ·exact this.2
 have h6 : ∀ l : List ByteArray, (∀ s ∈ l, s.size ≤ 200) → (l.flatMap fun s => z1q s.data.toList).length ≤ l.length * 210 := fun l => by
  induction l with
  | nil => intro _; simp
  | cons x l ih =>
   intro hl
   have a1 := ih fun s hs => hl s (by simp [hs])
   have a2 : (z1q x.data.toList).length ≤ 210 := by
    unfold z1q
    rw [List.length_append]
    have := z9h 9 (2 * x.data.toList.length)
    have e1 : x.data.toList.length = x.size := by simp
    have := hl x (by simp)
    omega
   simp only [List.flatMap_cons, List.length_append, List.length_cons]; omega
 have h7 := h6 _ h5
 have h8 : (z68 (z2q e.attrs)).length ≤ 10 + (z2q e.attrs).length * 210 := by
  unfold z68
  rw [List.length_append]
  have := z7u (z2q e.attrs).length
  omega
 have h9 := h.vec
 have h10 := h.attrs
 simp only [z66, List.mem_cons, List.not_mem_nil, or_false] at hs
 rcases hs with rfl | rfl | rfl <;> simp only [ByteArray.size, List.size_toArray] <;> omega
def z28 (f : Fc) : List Int := [f.kind, f.commit, f.day, f.id, f.owner, f.til, f.frm]
def z5b (f : Fc) : ByteArray := ⟨(z21 (z28 f) ++ dg f.blind).toArray⟩
def z3x (o c d s : Int) (root : Nat) : List ByteArray := [⟨(z21 [o, c, d, s]).toArray⟩, dgS root]
def z3z (o s : Int) (leaf : Nat) : List ByteArray := [⟨(z21 [o, s]).toArray⟩, dgS leaf]
theorem ziv (f : Fc) : (z5b f).size ≤ 200 := by
 have := z9g (z28 f)
 have e : (z28 f).length = 7 := rfl
 simp only [z5b, ByteArray.size, List.size_toArray, List.length_append, z2o]
 omega
theorem zc9 (o c d s : Int) (root : Nat) : ∀ x ∈ z3x o c d s root, x.size ≤ 65536 := by
 intro x hx
 have := z9g [o, c, d, s]
 simp only [z3x, List.mem_cons, List.not_mem_nil, or_false] at hx
 rcases hx with rfl | rfl
 ·simp only [ByteArray.size, List.size_toArray]; simp at this; omega
 ·rw [z95]; omega
theorem zcz (o s : Int) (leaf : Nat) : ∀ x ∈ z3z o s leaf, x.size ≤ 65536 := by
 intro x hx
 have := z9g [o, s]
 simp only [z3z, List.mem_cons, List.not_mem_nil, or_false] at hx
 rcases hx with rfl | rfl
 ·simp only [ByteArray.size, List.size_toArray]; simp at this; omega
 ·rw [z95]; omega
def yj : He where
 bl := fun n v a => val (z12 (z07 121 (dgS n :: z4t v a)))
 lf := fun f => z9e (z5b f)
 nd := z9j
 em := z98
 sh := fun s o c d sr rt => val (z12 (z07 200 ([s] ++ z3x o c d sr rt ++ [s])))
 sr := fun s o sr lf => val (z12 (z07 201 ([s] ++ z3z o sr lf ++ [s])))
def isD (d : Nat) (w : World) (e : Ending) (w' : World) : Prop := e = .returned (dgV d) ∧ Below w.heap.size w w'
structure Les (H : He) : Prop where
 nds : Nds H.nd H.em
 blt : ∀ n v a, H.bl n v a < 2 ^ 128
 llt : ∀ f, H.lf f < 2 ^ 128
 hlt : ∀ s o c d sr rt, H.sh s o c d sr rt < 2 ^ 128
 rlt : ∀ s o sr lf, H.sr s o sr lf < 2 ^ 128
 blind : ∀ (n : Nat) (v : List Int) (a : List At) (A : Option Addr) (k c : Nat) (w : World), k ≤ 100 → (∀ s ∈ z4t v a, s.size ≤ 65536) → Rd w A k (sv (z4t v a)) → GCon w → Calls Tryz.prog 50 #[.string (dgS n), .slice A k c] w (isD (H.bl n v a) w)
 refBlind : ∀ (n : Nat) (v : List Int) (a : List At) (A : Option Addr) (k c : Nat) (w : World), k ≤ 10 → (∀ s ∈ z4t v a, s.size ≤ 65536) → Rd w A k (sv (z4t v a)) → RCon w → Calls Tryz.prog 52 #[.string (dgS n), .slice A k c] w (isD (H.bl n v a) w)
 leaf : ∀ (f : Fc) (w : World), GCon w → Calls Tryz.prog 55 #[.string (z5b f)] w (isD (H.lf f) w)
 refLeaf : ∀ (f : Fc) (w : World), RCon w → Calls Tryz.prog 57 #[.string (z5b f)] w (isD (H.lf f) w)
 makeH : ∀ (k : Key) (o c d sr : Int) (rt : Nat) (A : Option Addr) (n m : Nat) (w : World), n ≤ 10 → k.secret.size ≤ 65536 → Rd w A n (sv (z3x o c d sr rt)) → GCon w → Calls Tryz.prog 75 #[z1b k, .int .i64 200, .slice A n m] w (isD (H.sh k.secret o c d sr rt) w)
 makeR : ∀ (k : Key) (o sr : Int) (lf : Nat) (A : Option Addr) (n m : Nat) (w : World), n ≤ 10 → k.secret.size ≤ 65536 → Rd w A n (sv (z3z o sr lf)) → GCon w → Calls Tryz.prog 75 #[z1b k, .int .i64 201, .slice A n m] w (isD (H.sr k.secret o sr lf) w)
 refMakeH : ∀ (k : Key) (o c d sr : Int) (rt : Nat) (A : Option Addr) (n m : Nat) (w : World), n ≤ 10 → k.secret.size ≤ 65536 → Rd w A n (sv (z3x o c d sr rt)) → RCon w → Calls Tryz.prog 80 #[z1b k, .int .i64 200, .slice A n m] w (isD (H.sh k.secret o c d sr rt) w)
 refMakeR : ∀ (k : Key) (o sr : Int) (lf : Nat) (A : Option Addr) (n m : Nat) (w : World), n ≤ 10 → k.secret.size ≤ 65536 → Rd w A n (sv (z3z o sr lf)) → RCon w → Calls Tryz.prog 80 #[z1b k, .int .i64 201, .slice A n m] w (isD (H.sr k.secret o sr lf) w)
 checkH : ∀ (R : Option Addr) (rn rc : Nat) (ring : List Key) (p s o c d sr day : Int) (rt sig : Nat) (A : Option Addr) (n m : Nat) (w : World), rn ≤ 1000 → RdK w R rn ring → z35 ring → (∀ k ∈ ring, z2y k = true) → n ≤ 10 → Rd w A n (sv (z3x o c d sr rt)) → sig < 2 ^ 128 → GCon w →
  Calls Tryz.prog 92 #[.slice R rn rc, .int .i64 p, .int .i64 s, .int .i64 200, .slice A n m, dgV sig, .int .i64 day] w fun e w' => e = .returned (.int .i64 (z31 ring p s day (fun x => H.sh x o c d sr rt) sig)) ∧ Below w.heap.size w w'
 checkR : ∀ (R : Option Addr) (rn rc : Nat) (ring : List Key) (p s o sr day : Int) (lf sig : Nat) (A : Option Addr) (n m : Nat) (w : World), rn ≤ 1000 → RdK w R rn ring → z35 ring → (∀ k ∈ ring, z2y k = true) → n ≤ 10 → Rd w A n (sv (z3z o sr lf)) → sig < 2 ^ 128 → GCon w →
  Calls Tryz.prog 92 #[.slice R rn rc, .int .i64 p, .int .i64 s, .int .i64 201, .slice A n m, dgV sig, .int .i64 day] w fun e w' => e = .returned (.int .i64 (z31 ring p s day (fun x => H.sr x o sr lf) sig)) ∧ Below w.heap.size w w'
 refCheckH : ∀ (R : Option Addr) (rn rc : Nat) (ring : List Key) (p s o c d sr day : Int) (rt sig : Nat) (A : Option Addr) (n m : Nat) (w : World), rn ≤ 1000 → RdK w R rn ring → (∀ k ∈ ring, z2y k = true) → n ≤ 10 → Rd w A n (sv (z3x o c d sr rt)) → sig < 2 ^ 128 → RCon w →
  Calls Tryz.prog 93 #[.slice R rn rc, .int .i64 p, .int .i64 s, .int .i64 200, .slice A n m, dgV sig, .int .i64 day] w fun e w' => e = .returned (.int .i64 (z31 ring p s day (fun x => H.sh x o c d sr rt) sig)) ∧ Below w.heap.size w w'
 refCheckR : ∀ (R : Option Addr) (rn rc : Nat) (ring : List Key) (p s o sr day : Int) (lf sig : Nat) (A : Option Addr) (n m : Nat) (w : World), rn ≤ 1000 → RdK w R rn ring → (∀ k ∈ ring, z2y k = true) → n ≤ 10 → Rd w A n (sv (z3z o sr lf)) → sig < 2 ^ 128 → RCon w →
  Calls Tryz.prog 93 #[.slice R rn rc, .int .i64 p, .int .i64 s, .int .i64 201, .slice A n m, dgV sig, .int .i64 day] w fun e w' => e = .returned (.int .i64 (z31 ring p s day (fun x => H.sr x o sr lf) sig)) ∧ Below w.heap.size w w'
theorem zpd (l : List UInt8) : Value.agg (bv (z12 l)).toArray = dgV (val (z12 l)) := by rw [z8g]
theorem dg_bv (n : Nat) : dgV n = .agg (bv (dg n)).toArray := rfl
theorem zv5 {want : ByteArray → List UInt8} (hw : ∀ s, (want s).length = 16) (ring : List Key) (p s day : Int) (sig : Nat) (hs : sig < 2 ^ 128) :
  (match z14 (z4l p s) ring with | none => (5 : Int) | some k => if z3d k day then (if want k.secret = dg sig then 0 else 8) else 9) = z31 ring p s day (fun x => val (want x)) sig := by
 unfold z31
 cases z14 (z4l p s) ring with
 | none => rfl
 | some k =>
  dsimp only
  have e : (want k.secret = dg sig) = (val (want k.secret) = sig) := by
   have h1 : dg (val (want k.secret)) = want k.secret := zbz (hw _)
   have h2 : val (want k.secret) < 2 ^ 128 := by have := z8t (want k.secret); rwa [hw, zax] at this
   have h3 : (want k.secret = dg sig) = (dg (val (want k.secret)) = dg sig) := by rw [h1]
   rw [h3, zam h2 hs]
  simp only [e]
theorem zca {e : Ending} {w w' : World} {l : List UInt8} {c : Array Value} (hc : c = (bv (z12 l)).toArray) (h : e = .returned (.agg c) ∧ Below w.heap.size w w') : isD (val (z12 l)) w e w' := by
 refine ⟨?_, h.2⟩
 rw [h.1, hc, zpd]
section
variable (n : Nat) (v : List Int) (a : List At) (A : Option Addr) (k c : Nat) (w : World)
theorem zr2 (hk : k ≤ 100) (hs : ∀ s ∈ z4t v a, s.size ≤ 65536) (hr : Rd w A k (sv (z4t v a))) (hg : GCon w) : Calls Tryz.prog 50 #[.string (dgS n), .slice A k c] w (isD (val (z12 (z07 121 (dgS n :: z4t v a)))) w) :=
 (zn3 (dgS n) A k c (z4t v a) w hk hs (by rw [z95]; omega) hr hg).mono fun e w' h => zca rfl h
theorem zr3 (hk : k ≤ 10) (hs : ∀ s ∈ z4t v a, s.size ≤ 65536) (hr : Rd w A k (sv (z4t v a))) (hg : RCon w) : Calls Tryz.prog 52 #[.string (dgS n), .slice A k c] w (isD (val (z12 (z07 121 (dgS n :: z4t v a)))) w) :=
 (ztb (dgS n) A k c (z4t v a) w hk hs (by rw [z95]; omega) hr hg).mono fun e w' h => zca rfl h
end
theorem zir (k : Key) (tag : Int) (l : List ByteArray) (A : Option Addr) (n m : Nat) (w : World) (hn : n ≤ 10) (hl : ∀ x ∈ l, x.size ≤ 65536) (hk : k.secret.size ≤ 65536) (hr : Rd w A n (sv l)) (hg : GCon w) : Calls Tryz.prog 75 #[z1b k, .int .i64 tag, .slice A n m] w (isD (val (z12 (z07 tag ([k.secret] ++ l ++ [k.secret])))) w) :=
 (zj7 k tag A n m l w (by omega) hl hk hr hg).mono fun e w' h => zca rfl h
theorem zit (k : Key) (tag : Int) (l : List ByteArray) (A : Option Addr) (n m : Nat) (w : World) (hn : n ≤ 10) (hl : ∀ x ∈ l, x.size ≤ 65536) (hk : k.secret.size ≤ 65536) (hr : Rd w A n (sv l)) (hg : RCon w) : Calls Tryz.prog 80 #[z1b k, .int .i64 tag, .slice A n m] w (isD (val (z12 (z07 tag ([k.secret] ++ l ++ [k.secret])))) w) :=
 (zks k tag A n m l w hn hl hk hr hg).mono fun e w' h => zca rfl h
theorem zhh (p s tag : Int) (parts : List ByteArray) (sig : Nat) (day : Int) (ring : List Key) (hs : sig < 2 ^ 128) : z92 p s tag parts (dg sig) day ring = z31 ring p s day (fun x => val (z12 (z07 tag ([x] ++ parts ++ [x])))) sig := by
 unfold z92
 exact zv5 (want := fun x => z4e x tag parts) (fun x => zf2 x tag parts) ring p s day sig hs
section
variable (R : Option Addr) (rn rc : Nat) (ring : List Key) (p s tag day : Int) (parts : List ByteArray) (sig : Nat) (A : Option Addr) (n m : Nat) (w : World)
theorem ziq (hrn : rn ≤ 1000) (hrk : RdK w R rn ring) (hso : z35 ring) (hv : ∀ k ∈ ring, z2y k = true) (hn : n ≤ 10) (hl : ∀ x ∈ parts, x.size ≤ 65536) (hr : Rd w A n (sv parts)) (hs : sig < 2 ^ 128) (hg : GCon w) :
  Calls Tryz.prog 92 #[.slice R rn rc, .int .i64 p, .int .i64 s, .int .i64 tag, .slice A n m, dgV sig, .int .i64 day] w fun e w' => e = .returned (.int .i64 (z31 ring p s day (fun x => val (z12 (z07 tag ([x] ++ parts ++ [x])))) sig)) ∧ Below w.heap.size w w' := by
 have h := zoa R rn rc ring p s tag A n m parts (dg sig) day w hrn hrk hso hv (by omega) hl hr (z2o sig) hg
 rw [zhh p s tag parts sig day ring hs] at h
 exact h
theorem zis (hrn : rn ≤ 1000) (hrk : RdK w R rn ring) (hv : ∀ k ∈ ring, z2y k = true) (hn : n ≤ 10) (hl : ∀ x ∈ parts, x.size ≤ 65536) (hr : Rd w A n (sv parts)) (hs : sig < 2 ^ 128) (hg : RCon w) :
  Calls Tryz.prog 93 #[.slice R rn rc, .int .i64 p, .int .i64 s, .int .i64 tag, .slice A n m, dgV sig, .int .i64 day] w fun e w' => e = .returned (.int .i64 (z31 ring p s day (fun x => val (z12 (z07 tag ([x] ++ parts ++ [x])))) sig)) ∧ Below w.heap.size w w' := by
 have h := ztd R rn rc ring p s tag A n m parts (dg sig) day w hrn hrk hv hn hl hr (z2o sig) hg
 rw [zhh p s tag parts sig day ring hs] at h
 exact h
end
theorem lds : Les yj where
 nds := by dsimp only [yj]; exact Go.Proofs.YtcapckngikekpaaGreatDoor.nds
 blt := by intro n v a; dsimp only [yj]; exact z97 _
 llt := by intro f; dsimp only [yj]; exact zr4 _
 hlt := by intros; dsimp only [yj]; exact z97 _
 rlt := by intros; dsimp only [yj]; exact z97 _
 blind := by intro n v a A k c w hk hs hr hg; dsimp only [yj]; exact zr2 n v a A k c w hk hs hr hg
 refBlind := by intro n v a A k c w hk hs hr hg; dsimp only [yj]; exact zr3 n v a A k c w hk hs hr hg
 leaf := by intro f w hg; dsimp only [yj]; unfold isD; exact zr5 (z5b f) w (by have := ziv f; omega) hg
 refLeaf := by intro f w hg; dsimp only [yj]; unfold isD; exact ztl (z5b f) w (by have := ziv f; omega) hg
 makeH := by intro k o c d sr rt A n m w hn hk hr hg; dsimp only [yj]; exact zir k 200 (z3x o c d sr rt) A n m w hn (zc9 o c d sr rt) hk hr hg
 makeR := by intro k o sr lf A n m w hn hk hr hg; dsimp only [yj]; exact zir k 201 (z3z o sr lf) A n m w hn (zcz o sr lf) hk hr hg
 refMakeH := by intro k o c d sr rt A n m w hn hk hr hg; dsimp only [yj]; exact zit k 200 (z3x o c d sr rt) A n m w hn (zc9 o c d sr rt) hk hr hg
 refMakeR := by intro k o sr lf A n m w hn hk hr hg; dsimp only [yj]; exact zit k 201 (z3z o sr lf) A n m w hn (zcz o sr lf) hk hr hg
 checkH := by intro R rn rc ring p s o c d sr day rt sig A n m w hrn hrk hso hv hn hr hs hg; dsimp only [yj]; exact ziq R rn rc ring p s 200 day (z3x o c d sr rt) sig A n m w hrn hrk hso hv hn (zc9 o c d sr rt) hr hs hg
 checkR := by intro R rn rc ring p s o sr day lf sig A n m w hrn hrk hso hv hn hr hs hg; dsimp only [yj]; exact ziq R rn rc ring p s 201 day (z3z o sr lf) sig A n m w hrn hrk hso hv hn (zcz o sr lf) hr hs hg
 refCheckH := by intro R rn rc ring p s o c d sr day rt sig A n m w hrn hrk hv hn hr hs hg; dsimp only [yj]; exact zis R rn rc ring p s 200 day (z3x o c d sr rt) sig A n m w hrn hrk hv hn (zc9 o c d sr rt) hr hs hg
 refCheckR := by intro R rn rc ring p s o sr day lf sig A n m w hrn hrk hv hn hr hs hg; dsimp only [yj]; exact zis R rn rc ring p s 201 day (z3z o sr lf) sig A n m w hrn hrk hv hn (zcz o sr lf) hr hs hg
end
section
open Go.RowKit Exch Merk Ring
theorem z82 {P : Program} {w : World} {ops : Array Oper} {rest : List Oper} {o : Oper} {a : Act} {Q : Exit → Act → World → Prop} (hgd : o.guard = none) {T : TypeId} {i j k l : Nat} {x y z u : Operand} {vx vy vz vu v : Value} (ho : o.op = .build T #[(i, x), (j, y), (k, z), (l, u)]) (hx : a.eval x = vx) (hy : a.eval y = vy) (hz : a.eval z = vz) (hu : a.eval u = vu)
  (hr : ∀ W, (Instr.build T #[(i, vx), (j, vy), (k, vz), (l, vu)]).run P W = .ok v W) (h : wpList P ops Q rest (a.put o.dst v) w) : wpList P ops Q (o :: rest) a w := by
 refine wpList_plain hgd fun K hK => ?_
 unfold Oper.wp execOp
 simp only [ho, List.map_toArray, List.map_cons, List.map_nil, hx, hy, hz, hu, Sem.run_bind, hr, Result.andThen_ok, Sem.run_pure]
 exact hK _ _ h
theorem zmi {P : Program} {w : World} {o : Oper} {a : Act} {K : Act → World → Prop} {Q : Exit → Act → World → Prop} {ty : TypeId} {x y : Operand} (ho : o.op = .store ty x y) (hi : (P.info? ty).map (·.size) = some 1)
  {g j : Nat} (hx : a.eval x = .pointer (some ⟨g, j, none⟩)) {v : Value} (hy : a.eval y = v) (h1 : v.oneCell' = true) {T : TypeId} {cs cs' : Array Value} (hb : Blk w g T cs) (hj : j < cs.size) (hcs : cs.setIfInBounds j v = cs')
  (h : ∀ w', z0w g w w' → Blk w' g T cs' → K (a.put o.dst undef) w') : o.wp P a w K Q :=
 za7 (K := K) ho hi hx hy h1 hb hj fun w' hw' h2 => h w' (by rw [hw']; exact z0w.of_setCell _ _ _ _) (by rw [← hcs]; exact h2)
theorem za6 {P : Program} {w : World} {o : Oper} {a : Act} {K : Act → World → Prop} {Q : Exit → Act → World → Prop} {ty : TypeId} {x y : Operand} (ho : o.op = .store ty x y) {g j : Nat} (hx : a.eval x = .pointer (some ⟨g, j, none⟩))
  {T : TypeId} {cs cs' : Array Value} {vs : List Value} (hy : a.eval y = .agg vs.toArray) (hb : Blk w g T cs) (hl : j + vs.length ≤ cs.size) (hi : (P.info? ty).map (·.size) = some vs.length) (h1 : ∀ v ∈ vs, v.oneCell' = true) (hcs : (cs.toList.take j ++ vs ++ cs.toList.drop (j + vs.length)).toArray = cs')
  (h : ∀ w', z0w g w w' → Blk w' g T cs' → K (a.put o.dst undef) w') : o.wp P a w K Q := by
 refine z3b (o := j) (vs := vs.toArray) ho hx hy hb (by simpa using hl) (by simpa using hi) (by simpa using h1) (h _ (z0w.of_setCells _ _ _ _) ?_)
 have := Blk.row g T vs j w cs hb hl
 rw [hcs] at this
 exact this
theorem zq8 (f : Fc) (v : Int) : (fcC f).setIfInBounds 3 (.int .i64 v) = fcC { f with id := v } := by simp [fcC, fcL]
theorem zq9 (f : Fc) (v : Int) : (fcC f).setIfInBounds 4 (.int .i64 v) = fcC { f with owner := v } := by simp [fcC, fcL]
theorem zi6 (f : Fc) (v : Int) : (fcC f).setIfInBounds 5 (.int .i64 v) = fcC { f with til := v } := by simp [fcC, fcL]
theorem zi7 (f : Fc) (v : Int) : (fcC f).setIfInBounds 6 (.int .i64 v) = fcC { f with frm := v } := by simp [fcC, fcL]
theorem zi5 (f : Fc) (b : Nat) : ((fcC f).toList.take 7 ++ bv (dg b) ++ (fcC f).toList.drop (7 + (bv (dg b)).length)).toArray = fcC { f with blind := b } := by
 have e : (fcC f).toList.drop (7 + (bv (dg b)).length) = [] := List.drop_eq_nil_of_le (by rw [z09]; show (fcL f).length ≤ 23; rw [z3e]; omega)
 rw [e, List.append_nil]
 simp [fcC, fcL]
theorem z91 (a b c d : Int) (W : World) : (Instr.build 29 #[(0, .int .i64 a), (1, .int .i64 b), (2, .int .i64 c), (3, .int .i64 d)]).run Tryz.prog W = .ok (fcV ⟨a, b, c, d, 0, 0, 0, 0⟩) W := by kernel_rfl
theorem zaz (l : List UInt8) : ∀ v ∈ bv l, v.oneCell' = true := by
 intro u hu
 simp only [bv, List.mem_map] at hu
 obtain ⟨b, _, rfl⟩ := hu
 rfl
theorem zi2 {W : World} {g : Nat} {T : TypeId} {r : EvR} (hb : Blk W g T (evC r)) : Rd W (some ⟨g, 9, none⟩) 16 (bv (dg r.e.nonce)) := ⟨z09 _, fun k u hk => ⟨_, rfl, zpv hb k u hk⟩⟩
theorem z9a (w : World) (r : EvR) : ∃ wa : World, wa = (w.alloc (.cells (evC r) 27)).alloc (.cells (fcC z1e) 29) ∧ Below w.heap.size w wa ∧ Blk wa w.heap.size 27 (evC r) ∧ Blk wa (w.heap.size + 1) 29 (fcC z1e) :=
 ⟨_, rfl, ((Below.refl w.heap.size w).alloc (Nat.le_refl _) _).alloc (by simp) _, (Blk.new _ _ _).alloc _, Blk.new2 _ _ _ _⟩
def z2t (f : Fc) (w : World) (e : Ending) (w' : World) : Prop := e = .returned (fcV f) ∧ Below w.heap.size w w'
theorem zq1 {H : He} (L : Les H) (r : EvR) (w : World) (h : z1d w r) (hw : z0v r.e) (hf : z1c r.e) (hg : GCon w) (hk : r.e.kind = 1) :
  Calls Tryz.prog 12 #[evV r] w (z2t (yv H r.e) w) := by
 have hF : yv H r.e = ⟨1, r.e.commit, r.e.day, r.e.id, r.e.owner, r.e.til, 0, (H.bl r.e.nonce r.e.vec r.e.attrs)⟩ := by simp [yv, hk]
 rw [hF]
 clear hF
 obtain ⟨wa, hwa, hb0, q1, q2⟩ := z9a w r
 have HWA := ya hwa
 clear hwa
 have hcells := ya (fun W (hb : Below wa.heap.size wa W) => z59 (q1.below hb))
 have HC : Hid (∀ W, Below wa.heap.size wa W → W.cell? ⟨w.heap.size, 0, none⟩ = some (.int .i64 1) ∧ W.cell? ⟨w.heap.size, 1, none⟩ = some (.int .i64 r.e.commit) ∧ W.cell? ⟨w.heap.size, 2, none⟩ = some (.int .i64 r.e.day) ∧ W.cell? ⟨w.heap.size, 3, none⟩ = some (.int .i64 r.e.id) ∧ W.cell? ⟨w.heap.size, 4, none⟩ = some (.int .i64 r.e.owner) ∧ W.cell? ⟨w.heap.size, 5, none⟩ = some (.int .i64 r.e.til) ∧ W.cell? ⟨w.heap.size, 6, none⟩ = some (.int .i64 r.e.frm)) := ya (fun W hb => by
  have hc := hcells.out W hb
  have z0 := hc 0
  rw [show (evL r)[0]? = some (.int .i64 r.e.kind) from rfl, hk] at z0
  exact ⟨z0, hc 1, hc 2, hc 3, hc 4, hc 5, hc 6⟩)
 have HCT := ya (fun W (hb : Below w.heap.size w W) => zhn r W (h.below hb) hw hf)
 have HBL := ya (fun A k c W (hb : Below w.heap.size w W) (hk : k ≤ 100) (hr : Rd W A k (sv (z66 r.e))) => L.blind r.e.nonce r.e.vec r.e.attrs A k c W hk (zho hf) hr (hg.below hb))
 have HCL : Hid ((z66 r.e).length = 3) := ya rfl
 have HRN := ya (fun W (hb : Below wa.heap.size wa W) => zi2 (q1.below hb))
 generalize z66 r.e = CL at *
 generalize H.bl r.e.nonce r.e.vec r.e.attrs = BL at *
 generalize r.e.nonce = NC at *
 clear hk h hw hf hg L hcells
 generalize r.e.commit = k1 at *
 generalize r.e.day = k2 at *
 generalize r.e.id = k3 at *
 generalize r.e.owner = k4 at *
 generalize r.e.til = k5 at *
 generalize r.e.frm = k6 at *
 have hB4 := z91 1 k1 k2 k3
 obtain ⟨c0, c1, c2, c3, c4, c5, c6⟩ := HC.out _ (Below.refl _ _)
 have hlt2 := q2.lt
 unfold z2t
 go_enter Tryz.func12, Tryz.ntmps12
 go_upto_region 1 with fail
 change Code.wp _ _ _ _ ((w.alloc (.cells (evC r) 27)).alloc (.cells (fcC z1e) 29))
 rw [← HWA.out]
 go_upto_region 2 with (first
  | ((with_reducible show sl 12); refine z82 rfl rfl rfl rfl rfl rfl hB4 ?_)
  | ((with_reducible show sl 3); refine z1p (z := fcC z1e) (vs := fcC ⟨1, k1, k2, k3, 0, 0, 0, 0⟩) rfl rfl rfl rfl (za9 _) (fun _ => rfl) (fun _ => rfl) (by rw [z0b, z0b]) (by rw [z1j, z0b]) (z5c _) ?_; intro w3 g3 hg3 b3 hb3 lt3; have hgw : wa.heap.size ≤ g3 := (by omega); have hne3 : w.heap.size + 1 < g3 := (by omega); clear hg3 lt3))
 replace q1 := q1.below hb3
 replace q2 := q2.below hb3
 obtain ⟨d0, d1, d2, d3, d4, d5, d6⟩ := HC.out _ hb3
 have hb0a := ya hb0
 have hbw : Below wa.heap.size wa w3 := hb3
 clear c0 c1 c2 c3 c4 c5 c6 d1 d2 d3 hb3
 go_upto_region 4 with fail
 have hd3 : Below w3.heap.size w3 w3.drew := (Below.refl _ _).drew
 have b3d := b3.below hd3
 have hS : Below g3 w3 w3.drew := hd3.mono (by have := b3.lt; omega)
 have HL4 := ya (fun W (h : Below g3 w3 W) => HC.out W (hbw.trans (h.mono hgw)))
 refine z2j (S := (fun W => Below g3 w3 W)) 7 (by kernel_rfl) ?_
 refine WpT.tk 0 hS ?_
 simp only [nrm]
 refine WpT.tl 1 rfl (za8 rfl rfl rfl (by kernel_rfl) (fun W h => (HL4.out W h).2.2.2.2.1)) hS ?_
 simp only [nrm]
 refine WpT.tk 2 hS ?_
 simp only [nrm]
 refine WpT.tl 3 rfl (za8 rfl rfl rfl (by kernel_rfl) (fun W h => (HL4.out W h).2.2.2.2.2.1)) hS ?_
 simp only [nrm]
 refine WpT.tk 4 hS ?_
 simp only [nrm]
 refine WpT.on 5 rfl (fun K hK => ?_)
 refine zmi rfl (by kernel_rfl) (by rfl) (by rfl) rfl b3d (by rw [z0b]; omega) (zq9 _ _) ?_; intro w4 ht4 b4; replace hS := hS.trans (ht4.below _ (Nat.le_refl _))
 refine hK _ _ hS ?_; clear hK K; try simp only [nrm]
 refine WpT.tk 6 hS ?_
 simp only [nrm]
 refine WpT.ta 7 rfl (fun K hK => ?_)
 refine zmi rfl (by kernel_rfl) (by rfl) (by rfl) rfl b4 (by rw [z0b]; omega) (zi6 _ _) ?_; intro w5 ht5 b5
 refine hK _ _ ?_; clear hK K; try simp only [nrm]
 refine WpT.done (by kernel_rfl) ?_ _
 skip
 have hbN : Below g3 w3 w5 := hS.trans (ht5.below _ (Nat.le_refl _))
 replace q1 : Blk w5 w.heap.size 27 (evC r) := (hbN.block _ (by omega)).trans q1
 replace q2 : Blk w5 (w.heap.size + 1) 29 (fcC z1e) := (hbN.block _ (by omega)).trans q2
 clear d0 d4 d5 d6 b3 b3d b4 ht4 ht5 hS hd3
 have x0 : w5.cell? ⟨w.heap.size, 0, none⟩ = some (.int .i64 1) := (HC.out _ (hbw.trans (hbN.mono (by omega)))).1
 go_upto_region 13 with fail
 have hbA : Below wa.heap.size wa w5 := hbw.trans (hbN.mono (by omega))
 have hS : Below w5.heap.size w5 w5.drew := (Below.refl _ _).drew
 have hbW : Below w.heap.size w w5 := yb hb0a.out hbA
 have hrn := HRN.out _ hbA
 refine yz 7 (by kernel_rfl) ?_
 refine WpT.tk 0 hS ?_
 simp only [nrm]
 refine WpT.tk 1 hS ?_
 simp only [nrm]
 refine WpT.tl 2 rfl (z7g rfl rfl z06 (by kernel_rfl) (by rfl) hrn) hS ?_
 simp only [nrm]
 refine WpT.tl 3 rfl (z86 rfl rfl rfl z23 (by rw [z1m, z3w]) q1) hS ?_
 simp only [nrm]
 refine WpT.on 4 rfl (fun K hK => ?_)
 go_simp; refine (HCT.out _ (yb hbW hS)).mono ?_; unfold zbq; rintro e w6 ⟨v6, rfl, o6, hb6⟩; obtain ⟨A6, n6, c6, rfl, hn6, -, -, r6⟩ := o6.formN; replace hS := yb hS hb6; have hn6' : n6 ≤ 100 := (by have h6 := hn6.out; rw [z5u, HCL.out] at h6; omega); clear hn6 o6
 refine hK _ _ hS ?_; clear hK K; try simp only [nrm]
 refine WpT.on 5 rfl (fun K hK => ?_)
 go_simp; refine (HBL.out A6 n6 c6 _ (yb hbW hS) hn6' r6).mono ?_; unfold isD; rintro e w7 ⟨rfl, hb7⟩; replace hS := yb hS hb7
 refine hK _ _ hS ?_; clear hK K; try simp only [nrm]
 refine WpT.tk 6 hS ?_
 simp only [nrm]
 refine WpT.ta 7 rfl (fun K hK => ?_)
 refine za6 (vs := bv (dg BL)) rfl (by rfl) (by rfl) (b5.below hS) (by rw [z09, z0b]; omega) (by rw [yf, z09]) (zaz _) (zi5 _ _) ?_; intro w8 ht8 b8
 refine hK _ _ ?_; clear hK K; try simp only [nrm]
 refine WpT.done (by kernel_rfl) ?_ _
 skip
 have hbM : Below g3 w3 w8 := (hbN.trans (hS.mono (by have := b5.lt; omega))).trans (ht8.below _ (Nat.le_refl _))
 replace q2 : Blk w8 (w.heap.size + 1) 29 (fcC z1e) := ht8.blk (q2.below hS) (by omega)
 clear hS q1 hb6 hb7 r6 HCT HBL HRN hrn x0 hbN hbW hbA b5 ht8
 go_wp2_with (first
  | ((with_reducible show sl 52); refine z1u rfl rfl rfl b8 z2z (by rw [z1j, z0b]) ?_)
  | ((with_reducible show sn); refine z0i (vs := fcC ⟨1, k1, k2, k3, k4, k5, 0, BL⟩) rfl rfl rfl rfl q2 (by rw [z0b, z0b]) (by rw [z1j, z0b]) (z5c _) ?_; intro w9 ht9 b9))
 exact z0s rfl rfl rfl b9 z2z (by rw [z1j, z0b]) ⟨rfl, (yb hb0a.out (hbw.trans (hbM.mono (by omega)))).trans (ht9.below _ (by omega))⟩
theorem zq2 {H : He} (L : Les H) (r : EvR) (w : World) (h : z1d w r) (hw : z0v r.e) (hf : z1c r.e) (hg : GCon w) (hk : r.e.kind = 2) :
  Calls Tryz.prog 12 #[evV r] w (z2t (yv H r.e) w) := by
 have hF : yv H r.e = ⟨2, r.e.commit, r.e.day, r.e.id, 0, 0, r.e.frm, (H.bl r.e.nonce r.e.vec r.e.attrs)⟩ := by simp [yv, hk]
 rw [hF]
 clear hF
 obtain ⟨wa, hwa, hb0, q1, q2⟩ := z9a w r
 have HWA := ya hwa
 clear hwa
 have hcells := ya (fun W (hb : Below wa.heap.size wa W) => z59 (q1.below hb))
 have HC : Hid (∀ W, Below wa.heap.size wa W → W.cell? ⟨w.heap.size, 0, none⟩ = some (.int .i64 2) ∧ W.cell? ⟨w.heap.size, 1, none⟩ = some (.int .i64 r.e.commit) ∧ W.cell? ⟨w.heap.size, 2, none⟩ = some (.int .i64 r.e.day) ∧ W.cell? ⟨w.heap.size, 3, none⟩ = some (.int .i64 r.e.id) ∧ W.cell? ⟨w.heap.size, 4, none⟩ = some (.int .i64 r.e.owner) ∧ W.cell? ⟨w.heap.size, 5, none⟩ = some (.int .i64 r.e.til) ∧ W.cell? ⟨w.heap.size, 6, none⟩ = some (.int .i64 r.e.frm)) := ya (fun W hb => by
  have hc := hcells.out W hb
  have z0 := hc 0
  rw [show (evL r)[0]? = some (.int .i64 r.e.kind) from rfl, hk] at z0
  exact ⟨z0, hc 1, hc 2, hc 3, hc 4, hc 5, hc 6⟩)
 have HCT := ya (fun W (hb : Below w.heap.size w W) => zhn r W (h.below hb) hw hf)
 have HBL := ya (fun A k c W (hb : Below w.heap.size w W) (hk : k ≤ 100) (hr : Rd W A k (sv (z66 r.e))) => L.blind r.e.nonce r.e.vec r.e.attrs A k c W hk (zho hf) hr (hg.below hb))
 have HCL : Hid ((z66 r.e).length = 3) := ya rfl
 have HRN := ya (fun W (hb : Below wa.heap.size wa W) => zi2 (q1.below hb))
 generalize z66 r.e = CL at *
 generalize H.bl r.e.nonce r.e.vec r.e.attrs = BL at *
 generalize r.e.nonce = NC at *
 clear hk h hw hf hg L hcells
 generalize r.e.commit = k1 at *
 generalize r.e.day = k2 at *
 generalize r.e.id = k3 at *
 generalize r.e.owner = k4 at *
 generalize r.e.til = k5 at *
 generalize r.e.frm = k6 at *
 have hB4 := z91 2 k1 k2 k3
 obtain ⟨c0, c1, c2, c3, c4, c5, c6⟩ := HC.out _ (Below.refl _ _)
 have hlt2 := q2.lt
 unfold z2t
 go_enter Tryz.func12, Tryz.ntmps12
 go_upto_region 1 with fail
 change Code.wp _ _ _ _ ((w.alloc (.cells (evC r) 27)).alloc (.cells (fcC z1e) 29))
 rw [← HWA.out]
 go_upto_region 2 with (first
  | ((with_reducible show sl 12); refine z82 rfl rfl rfl rfl rfl rfl hB4 ?_)
  | ((with_reducible show sl 3); refine z1p (z := fcC z1e) (vs := fcC ⟨2, k1, k2, k3, 0, 0, 0, 0⟩) rfl rfl rfl rfl (za9 _) (fun _ => rfl) (fun _ => rfl) (by rw [z0b, z0b]) (by rw [z1j, z0b]) (z5c _) ?_; intro w3 g3 hg3 b3 hb3 lt3; have hgw : wa.heap.size ≤ g3 := (by omega); have hne3 : w.heap.size + 1 < g3 := (by omega); clear hg3 lt3))
 replace q1 := q1.below hb3
 replace q2 := q2.below hb3
 obtain ⟨d0, d1, d2, d3, d4, d5, d6⟩ := HC.out _ hb3
 have hb0a := ya hb0
 have hbw : Below wa.heap.size wa w3 := hb3
 clear c0 c1 c2 c3 c4 c5 c6 d1 d2 d3 hb3
 go_upto_region 12 with ((with_reducible show sn); refine z1v rfl rfl (by kernel_rfl) rfl rfl rfl b3 (by rw [z0b]; omega) (zi7 _ _) ?_; intro w5 ht5 b5)
 have hbN : Below g3 w3 w5 := ht5.below _ (Nat.le_refl _)
 replace q1 : Blk w5 w.heap.size 27 (evC r) := (hbN.block _ (by omega)).trans q1
 replace q2 : Blk w5 (w.heap.size + 1) 29 (fcC z1e) := (hbN.block _ (by omega)).trans q2
 clear d0 d4 d5 d6 b3 ht5
 have x0 : w5.cell? ⟨w.heap.size, 0, none⟩ = some (.int .i64 2) := (HC.out _ (hbw.trans (hbN.mono (by omega)))).1
 go_upto_region 13 with fail
 have hbA : Below wa.heap.size wa w5 := hbw.trans (hbN.mono (by omega))
 have hS : Below w5.heap.size w5 w5.drew := (Below.refl _ _).drew
 have hbW : Below w.heap.size w w5 := yb hb0a.out hbA
 have hrn := HRN.out _ hbA
 refine yz 7 (by kernel_rfl) ?_
 refine WpT.tk 0 hS ?_
 simp only [nrm]
 refine WpT.tk 1 hS ?_
 simp only [nrm]
 refine WpT.tl 2 rfl (z7g rfl rfl z06 (by kernel_rfl) (by rfl) hrn) hS ?_
 simp only [nrm]
 refine WpT.tl 3 rfl (z86 rfl rfl rfl z23 (by rw [z1m, z3w]) q1) hS ?_
 simp only [nrm]
 refine WpT.on 4 rfl (fun K hK => ?_)
 go_simp; refine (HCT.out _ (yb hbW hS)).mono ?_; unfold zbq; rintro e w6 ⟨v6, rfl, o6, hb6⟩; obtain ⟨A6, n6, c6, rfl, hn6, -, -, r6⟩ := o6.formN; replace hS := yb hS hb6; have hn6' : n6 ≤ 100 := (by have h6 := hn6.out; rw [z5u, HCL.out] at h6; omega); clear hn6 o6
 refine hK _ _ hS ?_; clear hK K; try simp only [nrm]
 refine WpT.on 5 rfl (fun K hK => ?_)
 go_simp; refine (HBL.out A6 n6 c6 _ (yb hbW hS) hn6' r6).mono ?_; unfold isD; rintro e w7 ⟨rfl, hb7⟩; replace hS := yb hS hb7
 refine hK _ _ hS ?_; clear hK K; try simp only [nrm]
 refine WpT.tk 6 hS ?_
 simp only [nrm]
 refine WpT.ta 7 rfl (fun K hK => ?_)
 refine za6 (vs := bv (dg BL)) rfl (by rfl) (by rfl) (b5.below hS) (by rw [z09, z0b]; omega) (by rw [yf, z09]) (zaz _) (zi5 _ _) ?_; intro w8 ht8 b8
 refine hK _ _ ?_; clear hK K; try simp only [nrm]
 refine WpT.done (by kernel_rfl) ?_ _
 skip
 have hbM : Below g3 w3 w8 := (hbN.trans (hS.mono (by have := b5.lt; omega))).trans (ht8.below _ (Nat.le_refl _))
 replace q2 : Blk w8 (w.heap.size + 1) 29 (fcC z1e) := ht8.blk (q2.below hS) (by omega)
 clear hS q1 hb6 hb7 r6 HCT HBL HRN hrn x0 hbN hbW hbA b5 ht8
 go_wp2_with (first
  | ((with_reducible show sl 52); refine z1u rfl rfl rfl b8 z2z (by rw [z1j, z0b]) ?_)
  | ((with_reducible show sn); refine z0i (vs := fcC ⟨2, k1, k2, k3, 0, 0, k6, BL⟩) rfl rfl rfl rfl q2 (by rw [z0b, z0b]) (by rw [z1j, z0b]) (z5c _) ?_; intro w9 ht9 b9))
 exact z0s rfl rfl rfl b9 z2z (by rw [z1j, z0b]) ⟨rfl, (yb hb0a.out (hbw.trans (hbM.mono (by omega)))).trans (ht9.below _ (by omega))⟩
theorem zq3 {H : He} (L : Les H) (r : EvR) (w : World) (h : z1d w r) (hw : z0v r.e) (hf : z1c r.e) (hg : GCon w) (hk : r.e.kind = 3) :
  Calls Tryz.prog 12 #[evV r] w (z2t (yv H r.e) w) := by
 have hF : yv H r.e = ⟨3, r.e.commit, r.e.day, r.e.id, 0, 0, r.e.frm, 0⟩ := by simp [yv, hk]
 rw [hF]
 clear hF
 obtain ⟨wa, hwa, hb0, q1, q2⟩ := z9a w r
 have HWA := ya hwa
 clear hwa
 have hcells := ya (fun W (hb : Below wa.heap.size wa W) => z59 (q1.below hb))
 have HC : Hid (∀ W, Below wa.heap.size wa W → W.cell? ⟨w.heap.size, 0, none⟩ = some (.int .i64 3) ∧ W.cell? ⟨w.heap.size, 1, none⟩ = some (.int .i64 r.e.commit) ∧ W.cell? ⟨w.heap.size, 2, none⟩ = some (.int .i64 r.e.day) ∧ W.cell? ⟨w.heap.size, 3, none⟩ = some (.int .i64 r.e.id) ∧ W.cell? ⟨w.heap.size, 4, none⟩ = some (.int .i64 r.e.owner) ∧ W.cell? ⟨w.heap.size, 5, none⟩ = some (.int .i64 r.e.til) ∧ W.cell? ⟨w.heap.size, 6, none⟩ = some (.int .i64 r.e.frm)) := ya (fun W hb => by
  have hc := hcells.out W hb
  have z0 := hc 0
  rw [show (evL r)[0]? = some (.int .i64 r.e.kind) from rfl, hk] at z0
  exact ⟨z0, hc 1, hc 2, hc 3, hc 4, hc 5, hc 6⟩)
 clear hk h hw hf hg L hcells
 generalize r.e.commit = k1 at *
 generalize r.e.day = k2 at *
 generalize r.e.id = k3 at *
 generalize r.e.owner = k4 at *
 generalize r.e.til = k5 at *
 generalize r.e.frm = k6 at *
 have hB4 := z91 3 k1 k2 k3
 obtain ⟨c0, c1, c2, c3, c4, c5, c6⟩ := HC.out _ (Below.refl _ _)
 have hlt2 := q2.lt
 unfold z2t
 go_enter Tryz.func12, Tryz.ntmps12
 go_upto_region 1 with fail
 change Code.wp _ _ _ _ ((w.alloc (.cells (evC r) 27)).alloc (.cells (fcC z1e) 29))
 rw [← HWA.out]
 go_upto_region 2 with (first
  | ((with_reducible show sl 12); refine z82 rfl rfl rfl rfl rfl rfl hB4 ?_)
  | ((with_reducible show sl 3); refine z1p (z := fcC z1e) (vs := fcC ⟨3, k1, k2, k3, 0, 0, 0, 0⟩) rfl rfl rfl rfl (za9 _) (fun _ => rfl) (fun _ => rfl) (by rw [z0b, z0b]) (by rw [z1j, z0b]) (z5c _) ?_; intro w3 g3 hg3 b3 hb3 lt3; have hgw : wa.heap.size ≤ g3 := (by omega); have hne3 : w.heap.size + 1 < g3 := (by omega); clear hg3 lt3))
 replace q1 := q1.below hb3
 replace q2 := q2.below hb3
 obtain ⟨d0, d1, d2, d3, d4, d5, d6⟩ := HC.out _ hb3
 have hb0a := ya hb0
 have hbw : Below wa.heap.size wa w3 := hb3
 clear c0 c1 c2 c3 c4 c5 c6 d1 d2 d3 hb3
 go_upto_region 12 with ((with_reducible show sn); refine z1v rfl rfl (by kernel_rfl) rfl rfl rfl b3 (by rw [z0b]; omega) (zi7 _ _) ?_; intro w5 ht5 b5)
 have hbN : Below g3 w3 w5 := ht5.below _ (Nat.le_refl _)
 replace q1 : Blk w5 w.heap.size 27 (evC r) := (hbN.block _ (by omega)).trans q1
 replace q2 : Blk w5 (w.heap.size + 1) 29 (fcC z1e) := (hbN.block _ (by omega)).trans q2
 clear d0 d4 d5 d6 b3 ht5
 have x0 : w5.cell? ⟨w.heap.size, 0, none⟩ = some (.int .i64 3) := (HC.out _ (hbw.trans (hbN.mono (by omega)))).1
 go_wp2_with (first
  | ((with_reducible show sl 52); refine z1u rfl rfl rfl b5 z2z (by rw [z1j, z0b]) ?_)
  | ((with_reducible show sn); refine z0i (vs := fcC ⟨3, k1, k2, k3, 0, 0, k6, 0⟩) rfl rfl rfl rfl q2 (by rw [z0b, z0b]) (by rw [z1j, z0b]) (z5c _) ?_; intro w9 ht9 b9))
 exact z0s rfl rfl rfl b9 z2z (by rw [z1j, z0b]) ⟨rfl, (yb hb0a.out (hbw.trans (hbN.mono (by omega)))).trans (ht9.below _ (by omega))⟩
theorem zq4 {H : He} (L : Les H) (r : EvR) (w : World) (h : z1d w r) (hw : z0v r.e) (hf : z1c r.e) (hg : GCon w) (hk : r.e.kind = 4) :
  Calls Tryz.prog 12 #[evV r] w (z2t (yv H r.e) w) := by
 have hF : yv H r.e = ⟨4, r.e.commit, r.e.day, r.e.id, 0, r.e.til, 0, 0⟩ := by simp [yv, hk]
 rw [hF]
 clear hF
 obtain ⟨wa, hwa, hb0, q1, q2⟩ := z9a w r
 have HWA := ya hwa
 clear hwa
 have hcells := ya (fun W (hb : Below wa.heap.size wa W) => z59 (q1.below hb))
 have HC : Hid (∀ W, Below wa.heap.size wa W → W.cell? ⟨w.heap.size, 0, none⟩ = some (.int .i64 4) ∧ W.cell? ⟨w.heap.size, 1, none⟩ = some (.int .i64 r.e.commit) ∧ W.cell? ⟨w.heap.size, 2, none⟩ = some (.int .i64 r.e.day) ∧ W.cell? ⟨w.heap.size, 3, none⟩ = some (.int .i64 r.e.id) ∧ W.cell? ⟨w.heap.size, 4, none⟩ = some (.int .i64 r.e.owner) ∧ W.cell? ⟨w.heap.size, 5, none⟩ = some (.int .i64 r.e.til) ∧ W.cell? ⟨w.heap.size, 6, none⟩ = some (.int .i64 r.e.frm)) := ya (fun W hb => by
  have hc := hcells.out W hb
  have z0 := hc 0
  rw [show (evL r)[0]? = some (.int .i64 r.e.kind) from rfl, hk] at z0
  exact ⟨z0, hc 1, hc 2, hc 3, hc 4, hc 5, hc 6⟩)
 clear hk h hw hf hg L hcells
 generalize r.e.commit = k1 at *
 generalize r.e.day = k2 at *
 generalize r.e.id = k3 at *
 generalize r.e.owner = k4 at *
 generalize r.e.til = k5 at *
 generalize r.e.frm = k6 at *
 have hB4 := z91 4 k1 k2 k3
 obtain ⟨c0, c1, c2, c3, c4, c5, c6⟩ := HC.out _ (Below.refl _ _)
 have hlt2 := q2.lt
 unfold z2t
 go_enter Tryz.func12, Tryz.ntmps12
 go_upto_region 1 with fail
 change Code.wp _ _ _ _ ((w.alloc (.cells (evC r) 27)).alloc (.cells (fcC z1e) 29))
 rw [← HWA.out]
 go_upto_region 2 with (first
  | ((with_reducible show sl 12); refine z82 rfl rfl rfl rfl rfl rfl hB4 ?_)
  | ((with_reducible show sl 3); refine z1p (z := fcC z1e) (vs := fcC ⟨4, k1, k2, k3, 0, 0, 0, 0⟩) rfl rfl rfl rfl (za9 _) (fun _ => rfl) (fun _ => rfl) (by rw [z0b, z0b]) (by rw [z1j, z0b]) (z5c _) ?_; intro w3 g3 hg3 b3 hb3 lt3; have hgw : wa.heap.size ≤ g3 := (by omega); have hne3 : w.heap.size + 1 < g3 := (by omega); clear hg3 lt3))
 replace q1 := q1.below hb3
 replace q2 := q2.below hb3
 obtain ⟨d0, d1, d2, d3, d4, d5, d6⟩ := HC.out _ hb3
 have hb0a := ya hb0
 have hbw : Below wa.heap.size wa w3 := hb3
 clear c0 c1 c2 c3 c4 c5 c6 d1 d2 d3 hb3
 go_upto_region 12 with ((with_reducible show sn); refine z1v rfl rfl (by kernel_rfl) rfl rfl rfl b3 (by rw [z0b]; omega) (zi6 _ _) ?_; intro w5 ht5 b5)
 have hbN : Below g3 w3 w5 := ht5.below _ (Nat.le_refl _)
 replace q1 : Blk w5 w.heap.size 27 (evC r) := (hbN.block _ (by omega)).trans q1
 replace q2 : Blk w5 (w.heap.size + 1) 29 (fcC z1e) := (hbN.block _ (by omega)).trans q2
 clear d0 d4 d5 d6 b3 ht5
 have x0 : w5.cell? ⟨w.heap.size, 0, none⟩ = some (.int .i64 4) := (HC.out _ (hbw.trans (hbN.mono (by omega)))).1
 go_wp2_with (first
  | ((with_reducible show sl 52); refine z1u rfl rfl rfl b5 z2z (by rw [z1j, z0b]) ?_)
  | ((with_reducible show sn); refine z0i (vs := fcC ⟨4, k1, k2, k3, 0, k5, 0, 0⟩) rfl rfl rfl rfl q2 (by rw [z0b, z0b]) (by rw [z1j, z0b]) (z5c _) ?_; intro w9 ht9 b9))
 exact z0s rfl rfl rfl b9 z2z (by rw [z1j, z0b]) ⟨rfl, (yb hb0a.out (hbw.trans (hbN.mono (by omega)))).trans (ht9.below _ (by omega))⟩
theorem zq5 {H : He} (L : Les H) (r : EvR) (w : World) (h : z1d w r) (hw : z0v r.e) (hf : z1c r.e) (hg : GCon w) (hk : r.e.kind = 5) :
  Calls Tryz.prog 12 #[evV r] w (z2t (yv H r.e) w) := by
 have hF : yv H r.e = ⟨5, r.e.commit, r.e.day, 0, 0, 0, 0, 0⟩ := by simp [yv, hk]
 rw [hF]
 clear hF
 obtain ⟨wa, hwa, hb0, q1, q2⟩ := z9a w r
 have HWA := ya hwa
 clear hwa
 have hcells := ya (fun W (hb : Below wa.heap.size wa W) => z59 (q1.below hb))
 have HC : Hid (∀ W, Below wa.heap.size wa W → W.cell? ⟨w.heap.size, 0, none⟩ = some (.int .i64 5) ∧ W.cell? ⟨w.heap.size, 1, none⟩ = some (.int .i64 r.e.commit) ∧ W.cell? ⟨w.heap.size, 2, none⟩ = some (.int .i64 r.e.day) ∧ W.cell? ⟨w.heap.size, 3, none⟩ = some (.int .i64 r.e.id) ∧ W.cell? ⟨w.heap.size, 4, none⟩ = some (.int .i64 r.e.owner) ∧ W.cell? ⟨w.heap.size, 5, none⟩ = some (.int .i64 r.e.til) ∧ W.cell? ⟨w.heap.size, 6, none⟩ = some (.int .i64 r.e.frm)) := ya (fun W hb => by
  have hc := hcells.out W hb
  have z0 := hc 0
  rw [show (evL r)[0]? = some (.int .i64 r.e.kind) from rfl, hk] at z0
  exact ⟨z0, hc 1, hc 2, hc 3, hc 4, hc 5, hc 6⟩)
 clear hk h hw hf hg L hcells
 generalize r.e.commit = k1 at *
 generalize r.e.day = k2 at *
 generalize r.e.id = k3 at *
 generalize r.e.owner = k4 at *
 generalize r.e.til = k5 at *
 generalize r.e.frm = k6 at *
 have hB4 := z91 5 k1 k2 k3
 obtain ⟨c0, c1, c2, c3, c4, c5, c6⟩ := HC.out _ (Below.refl _ _)
 have hlt2 := q2.lt
 unfold z2t
 go_enter Tryz.func12, Tryz.ntmps12
 go_upto_region 1 with fail
 change Code.wp _ _ _ _ ((w.alloc (.cells (evC r) 27)).alloc (.cells (fcC z1e) 29))
 rw [← HWA.out]
 go_upto_region 2 with (first
  | ((with_reducible show sl 12); refine z82 rfl rfl rfl rfl rfl rfl hB4 ?_)
  | ((with_reducible show sl 3); refine z1p (z := fcC z1e) (vs := fcC ⟨5, k1, k2, k3, 0, 0, 0, 0⟩) rfl rfl rfl rfl (za9 _) (fun _ => rfl) (fun _ => rfl) (by rw [z0b, z0b]) (by rw [z1j, z0b]) (z5c _) ?_; intro w3 g3 hg3 b3 hb3 lt3; have hgw : wa.heap.size ≤ g3 := (by omega); have hne3 : w.heap.size + 1 < g3 := (by omega); clear hg3 lt3))
 replace q1 := q1.below hb3
 replace q2 := q2.below hb3
 obtain ⟨d0, d1, d2, d3, d4, d5, d6⟩ := HC.out _ hb3
 have hb0a := ya hb0
 have hbw : Below wa.heap.size wa w3 := hb3
 clear c0 c1 c2 c3 c4 c5 c6 d1 d2 d3 hb3
 go_upto_region 12 with ((with_reducible show sn); refine z1v rfl rfl (by kernel_rfl) rfl rfl rfl b3 (by rw [z0b]; omega) (zq8 _ _) ?_; intro w5 ht5 b5)
 have hbN : Below g3 w3 w5 := ht5.below _ (Nat.le_refl _)
 replace q1 : Blk w5 w.heap.size 27 (evC r) := (hbN.block _ (by omega)).trans q1
 replace q2 : Blk w5 (w.heap.size + 1) 29 (fcC z1e) := (hbN.block _ (by omega)).trans q2
 clear d0 d4 d5 d6 b3 ht5
 have x0 : w5.cell? ⟨w.heap.size, 0, none⟩ = some (.int .i64 5) := (HC.out _ (hbw.trans (hbN.mono (by omega)))).1
 go_wp2_with (first
  | ((with_reducible show sl 52); refine z1u rfl rfl rfl b5 z2z (by rw [z1j, z0b]) ?_)
  | ((with_reducible show sn); refine z0i (vs := fcC ⟨5, k1, k2, 0, 0, 0, 0, 0⟩) rfl rfl rfl rfl q2 (by rw [z0b, z0b]) (by rw [z1j, z0b]) (z5c _) ?_; intro w9 ht9 b9))
 exact z0s rfl rfl rfl b9 z2z (by rw [z1j, z0b]) ⟨rfl, (yb hb0a.out (hbw.trans (hbN.mono (by omega)))).trans (ht9.below _ (by omega))⟩
theorem zq0 {H : He} (L : Les H) (r : EvR) (w : World) (h : z1d w r) (hw : z0v r.e) (hf : z1c r.e) (hg : GCon w) (hk : r.e.kind ≠ 1 ∧ r.e.kind ≠ 2 ∧ r.e.kind ≠ 3 ∧ r.e.kind ≠ 4 ∧ r.e.kind ≠ 5) :
  Calls Tryz.prog 12 #[evV r] w (z2t (yv H r.e) w) := by
 have hF : yv H r.e = ⟨r.e.kind, r.e.commit, r.e.day, r.e.id, 0, 0, 0, 0⟩ := by simp [yv, hk]
 rw [hF]
 clear hF
 obtain ⟨wa, hwa, hb0, q1, q2⟩ := z9a w r
 have HWA := ya hwa
 clear hwa
 have hcells := ya (fun W (hb : Below wa.heap.size wa W) => z59 (q1.below hb))
 have HC : Hid (∀ W, Below wa.heap.size wa W → W.cell? ⟨w.heap.size, 0, none⟩ = some (.int .i64 r.e.kind) ∧ W.cell? ⟨w.heap.size, 1, none⟩ = some (.int .i64 r.e.commit) ∧ W.cell? ⟨w.heap.size, 2, none⟩ = some (.int .i64 r.e.day) ∧ W.cell? ⟨w.heap.size, 3, none⟩ = some (.int .i64 r.e.id) ∧ W.cell? ⟨w.heap.size, 4, none⟩ = some (.int .i64 r.e.owner) ∧ W.cell? ⟨w.heap.size, 5, none⟩ = some (.int .i64 r.e.til) ∧ W.cell? ⟨w.heap.size, 6, none⟩ = some (.int .i64 r.e.frm)) := ya (fun W hb => by
  have hc := hcells.out W hb
  have z0 := hc 0
  skip
  exact ⟨z0, hc 1, hc 2, hc 3, hc 4, hc 5, hc 6⟩)
 have e1 : (r.e.kind == 1) = false := by simp [hk.1]
 have e2 : (r.e.kind == 2) = false := by simp [hk.2.1]
 have e3 : (r.e.kind == 3) = false := by simp [hk.2.2.1]
 have e4 : (r.e.kind == 4) = false := by simp [hk.2.2.2.1]
 have e5 : (r.e.kind == 5) = false := by simp [hk.2.2.2.2]
 clear hk h hw hf hg L hcells
 generalize r.e.kind = k0 at *
 generalize r.e.commit = k1 at *
 generalize r.e.day = k2 at *
 generalize r.e.id = k3 at *
 generalize r.e.owner = k4 at *
 generalize r.e.til = k5 at *
 generalize r.e.frm = k6 at *
 have hB4 := z91 k0 k1 k2 k3
 obtain ⟨c0, c1, c2, c3, c4, c5, c6⟩ := HC.out _ (Below.refl _ _)
 have hlt2 := q2.lt
 unfold z2t
 go_enter Tryz.func12, Tryz.ntmps12
 go_upto_region 1 with fail
 change Code.wp _ _ _ _ ((w.alloc (.cells (evC r) 27)).alloc (.cells (fcC z1e) 29))
 rw [← HWA.out]
 go_upto_region 2 with (first
  | ((with_reducible show sl 12); refine z82 rfl rfl rfl rfl rfl rfl hB4 ?_)
  | ((with_reducible show sl 3); refine z1p (z := fcC z1e) (vs := fcC ⟨k0, k1, k2, k3, 0, 0, 0, 0⟩) rfl rfl rfl rfl (za9 _) (fun _ => rfl) (fun _ => rfl) (by rw [z0b, z0b]) (by rw [z1j, z0b]) (z5c _) ?_; intro w3 g3 hg3 b3 hb3 lt3; have hgw : wa.heap.size ≤ g3 := (by omega); have hne3 : w.heap.size + 1 < g3 := (by omega); clear hg3 lt3))
 replace q1 := q1.below hb3
 replace q2 := q2.below hb3
 obtain ⟨d0, d1, d2, d3, d4, d5, d6⟩ := HC.out _ hb3
 have hb0a := ya hb0
 have hbw : Below wa.heap.size wa w3 := hb3
 clear c0 c1 c2 c3 c4 c5 c6 d1 d2 d3 hb3
 go_upto_region 12 with fail
 have hbN : Below g3 w3 w3 := Below.refl _ _
 clear d4 d5 d6
 have x0 : w3.cell? ⟨w.heap.size, 0, none⟩ = some (.int .i64 k0) := (HC.out _ (hbw.trans (hbN.mono (by omega)))).1
 go_wp2_with (first
  | ((with_reducible show sl 52); refine z1u rfl rfl rfl b3 z2z (by rw [z1j, z0b]) ?_)
  | ((with_reducible show sn); refine z0i (vs := fcC ⟨k0, k1, k2, k3, 0, 0, 0, 0⟩) rfl rfl rfl rfl q2 (by rw [z0b, z0b]) (by rw [z1j, z0b]) (z5c _) ?_; intro w9 ht9 b9))
 exact z0s rfl rfl rfl b9 z2z (by rw [z1j, z0b]) ⟨rfl, (yb hb0a.out (hbw.trans (hbN.mono (by omega)))).trans (ht9.below _ (by omega))⟩
theorem z99 {H : He} (L : Les H) (r : EvR) (w : World) (h : z1d w r) (hw : z0v r.e) (hf : z1c r.e) (hg : GCon w) :
  Calls Tryz.prog 12 #[evV r] w (z2t (yv H r.e) w) := by
 by_cases h1 : r.e.kind = 1
 ·exact zq1 L r w h hw hf hg h1
 by_cases h2 : r.e.kind = 2
 ·exact zq2 L r w h hw hf hg h2
 by_cases h3 : r.e.kind = 3
 ·exact zq3 L r w h hw hf hg h3
 by_cases h4 : r.e.kind = 4
 ·exact zq4 L r w h hw hf hg h4
 by_cases h5 : r.e.kind = 5
 ·exact zq5 L r w h hw hf hg h5
 exact zq0 L r w h hw hf hg ⟨h1, h2, h3, h4, h5⟩
end
end Go.Proofs.YtcapckngikekpaaGreatDoor
