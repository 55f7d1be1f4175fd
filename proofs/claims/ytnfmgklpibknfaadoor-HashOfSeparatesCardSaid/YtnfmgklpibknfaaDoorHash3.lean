/-
  What Words, times and Join, and the reference's Five, Bytes, Words, Join, Few and Joined compute. Condition: the table of nibbles reads as the program lays it.
-/
import Derived.Test.YtnfmgklpibknfaaDoorHash2
namespace Go.Proofs.YtnfmgklpibknfaaDoor
set_option linter.unusedSimpArgs false
set_option linter.unusedVariables false
open Go.RowKit Crc

def byteOf (n : Int) : UInt8 := UInt8.ofNat (n % 256).toNat
theorem byteOf_nat (n : Int) : ((byteOf n).toNat : Int) = n % 256 := by
  unfold byteOf
  rw [UInt8.toNat_ofNat']
  omega
/-- The five bytes of an integer's lowest 40 bits. -/
def fiveB (n : Int) : List UInt8 := [byteOf (n / 2 ^ 32), byteOf (n / 2 ^ 24), byteOf (n / 2 ^ 16), byteOf (n / 2 ^ 8), byteOf n]
def five (n : Int) (k : Nat) : UInt8 := byteOf (n / 2 ^ (32 - 8 * k))
theorem five_at (n : Int) (k : Nat) (hk : k < 5) : (fiveB n)[k]? = some (five n k) := by
  rcases k with _|_|_|_|_|k <;> first | (simp [fiveB, five]; done) | omega
theorem five_take (n : Int) (k : Nat) (hk : k < 5) : (fiveB n).take (k + 1) = (fiveB n).take k ++ [five n k] := by
  have h := five_at n k hk
  have hl : k < (fiveB n).length := by simp [fiveB]; omega
  rw [List.take_succ_eq_append_getElem hl]
  rw [List.getElem?_eq_getElem hl] at h
  injection h with h
  rw [h]

set_option maxHeartbeats 1000000 in
theorem five_any (n : Int) (w : World) :
    Calls Tryd.prog 42 #[.int .i64 n] w fun e w' => ∃ v, e = .returned v ∧ Own w' w.heap.size 5 v (bv (fiveB n)) ∧ Below w.heap.size w w' := by
  go_enter Tryd.func42, Tryd.ntmps42
  go_wp2
  go_loopw [3, 4] (fun v i wr => ∃ k : Nat, k ≤ 5 ∧ i = .int .i64 k ∧ Own wr w.heap.size 5 v (bv ((fiveB n).take k)) ∧ Below w.heap.size w wr) (fun _ i _ => 5 - (intOf i).toNat)
  case atStart => exact ⟨0, Nat.zero_le _, rfl, Own.nil _ _ _, Below.refl _ _⟩
  case round =>
    obtain ⟨k, hk, rfl, hown, hb⟩ := hrel
    by_cases hlt : k < 5
    · have hz := hb.size
      go_wp2_with (at_builtin; refine wpList_app rfl rfl elemBytes rfl (hown.alloc _) rfl (Rd.new1 _ _ _) (one1 rfl) (by simp; omega) (by simp; omega) ?_; intro v' w' hown' hg' hb' _)
      refine ⟨⟨k + 1, by omega, by go_num, ?_, (hb.alloc hz _).trans hb'⟩, by simp [intOf]; omega⟩
      rw [five_take n k hlt, bv_append]
      have e : bv [five n k] = [.int .u8 (n / 2 ^ (32 - 8 * k) % 256)] := by simp [bv, five, byteOf_nat]
      rw [e]; exact hown'
    · obtain rfl : k = 5 := by omega
      go_wp2
      go_ret
      exact ⟨_, rfl, hown, hb⟩

def bytesOf (l : List Int) : List UInt8 := l.flatMap fiveB
theorem bytesOf_snoc (l : List Int) (x : Int) : bytesOf (l ++ [x]) = bytesOf l ++ fiveB x := by simp [bytesOf]
theorem length_bytesOf (l : List Int) : (bytesOf l).length = 5 * l.length := by
  induction l with
  | nil => rfl
  | cons x l ih =>
    show (fiveB x ++ bytesOf l).length = _
    rw [List.length_append, ih]; simp [fiveB]; omega
set_option maxHeartbeats 1000000 in
theorem refBytes_any (A : Option Addr) (n c : Nat) (l : List Int) (w : World) (hn : n ≤ 1073741824) (hr : Rd w A n (iv l)) :
    Calls Tryd.prog 25 #[.slice A n c] w fun e w' => ∃ v, e = .returned v ∧ Own w' w.heap.size 5 v (bv (bytesOf l)) ∧ Below w.heap.size w w' := by
  have hl : l.length = n := by have := hr.len; simpa using this
  go_enter Tryd.func25, Tryd.ntmps25
  go_wp2
  go_loopw [3, 4] (fun v i wr => ∃ k : Nat, k ≤ n ∧ i = .int .i64 k ∧ Own wr w.heap.size 5 v (bv (bytesOf (l.take k))) ∧ Below w.heap.size w wr) (fun _ i _ => n - (intOf i).toNat)
  case atStart => exact ⟨0, Nat.zero_le _, rfl, Own.nil _ _ _, Below.refl _ _⟩
  case round =>
    obtain ⟨k, hk, rfl, hown, hb⟩ := hrel
    by_cases hlt : k < n
    · have hz := hb.size
      obtain ⟨ad, rfl, hc⟩ := (hr.below hb).int hlt hl
      have hlen := length_bytesOf (l.take k)
      rw [List.length_take] at hlen
      have Hl := Lib.hid hlen
      clear hlen
      go_wp2_with fail
      refine (five_any _ _).mono ?_
      rintro e w1 ⟨v1, rfl, hown1, hb1⟩
      obtain ⟨A1, c1, rfl, _, _, hr1⟩ := hown1.form
      go_wp2_with (at_builtin; refine wpList_app rfl rfl elemBytes rfl (hown.below hb1) rfl hr1 (oneCell_bv _) (by rw [length_bv, Hl.out]; simp [fiveB]; omega) (by have := hb1.size; omega) ?_; intro v' w' hown' hg' hb' _)
      refine ⟨⟨k + 1, by omega, by go_num, ?_, (hb.trans (hb1.mono hz)).trans hb'⟩, by simp [intOf]; omega⟩
      rw [List.take_succ_eq_append_getElem (by omega), bytesOf_snoc, bv_append]
      exact hown'
    · obtain rfl : k = n := by omega
      go_wp2
      go_ret
      refine ⟨_, rfl, ?_, hb⟩
      rwa [List.take_of_length_le (by omega)] at hown

theorem refWords_any (A : Option Addr) (n c : Nat) (l : List Int) (w : World) (hn : n ≤ 1073741824) (hr : Rd w A n (iv l)) :
    Calls Tryd.prog 24 #[.slice A n c] w fun e w' => e = .returned (.int .i64 ((check (bytesOf l)).toNat : Nat)) ∧ Below w.heap.size w w' := by
  have hl : l.length = n := by have := hr.len; simpa using this
  go_enter Tryd.func24, Tryd.ntmps24
  go_wp2_with fail
  refine (refBytes_any A n c l _ hn hr).mono ?_
  rintro e w1 ⟨v1, rfl, hown1, hb1⟩
  obtain ⟨A1, n1, c1, rfl, hn1, _, _, hr1⟩ := hown1.formN
  go_wp2_with fail
  refine (refCrc40_any A1 n1 c1 _ _ (by rw [hn1.out, length_bv, length_bytesOf]; omega) hr1).mono ?_
  rintro e w2 ⟨rfl, rfl⟩
  go_wp2
  go_ret
  exact ⟨rfl, hb1⟩
end Go.Proofs.YtnfmgklpibknfaaDoor
