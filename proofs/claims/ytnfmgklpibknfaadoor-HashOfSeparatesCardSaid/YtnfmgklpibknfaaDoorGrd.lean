/-
  Guarded conversions and appends, for the walks of the laws. Conditions: none.
-/
import Derived.Test.YtnfmgklpibknfaaDoorWrap
import Derived.Test.YtnfmgklpibknfaaDoorCrc2
namespace Go.Proofs.YtnfmgklpibknfaaDoor
set_option linter.unusedSimpArgs false
set_option linter.unusedVariables false
open Go.RowKit Sha Crc
section
variable {P : Program} {w : World} {ops : Array Oper} {rest : List Oper} {o : Oper} {a : Act} {Q : Exit → Act → World → Prop}
theorem wpList_wanted (hw : Region.wanted o (yielded ops a.tmps) = true) (h : ∀ K : Act → World → Prop, (∀ a w, wpList P ops Q rest a w → K a w) → o.wp P a w K Q) : wpList P ops Q (o :: rest) a w :=
  wpList_step fun K hK => by rw [if_pos hw]; exact h K hK
theorem wpList_btsG (hw : Region.wanted o (yielded ops a.tmps) = true) {src dst e : TypeId} {x : Operand}
    (ho : o.op = .convert src dst x) (hT : BytesTy P src e) (hd : P.underlying dst = some .string) {A : Option Addr} {n c : Nat} {l : List UInt8} (hx : a.eval x = .slice A n c) (h : Rd w A n (bv l))
    (k : wpList P ops Q rest (a.put o.dst (.string ⟨l.toArray⟩)) w) : wpList P ops Q (o :: rest) a w :=
  wpList_wanted hw fun _ hK => wp_bts ho hT hd hx h (hK _ _ k)
theorem wpList_stbG (hw : Region.wanted o (yielded ops a.tmps) = true) {src dst e : TypeId} {x : Operand}
    (ho : o.op = .convert src dst x) (hT : BytesTy P dst e) (hs : P.underlying src = some .string) {s : ByteArray} (hx : a.eval x = .string s)
    (k : ∀ A c w', Rd w' A s.size (bv s.data.toList) → Below w.heap.size w w' → (∀ ad, A = some ad → ad.block < w'.heap.size) → wpList P ops Q rest (a.put o.dst (.slice A s.size c)) w') : wpList P ops Q (o :: rest) a w :=
  wpList_wanted hw fun _ hK => wp_stb ho hT hs hx fun A c w' h1 h2 h3 => hK _ _ (k A c w' h1 h2 h3)
end
theorem chk_lt (b : BitVec 40) : ((b.toNat : Nat) : Int) < 1099511627776 := by have := b.isLt; omega
theorem i64_and_mask (a : Int) : bits .and .i64 a 1099511627775 = a % 1099511627776 := by
  show IntKind.i64.wrap ((BitVec.ofInt 64 a &&& BitVec.ofInt 64 1099511627775).toNat : Int) = _
  rw [BitVec.toNat_and, show (BitVec.ofInt 64 1099511627775).toNat = 2 ^ 40 - 1 from by decide, Nat.and_two_pow_sub_one_eq_mod, BitVec.toNat_ofInt, IntKind.wrap_i64]
  omega
theorem ofInt40_nat (b : BitVec 40) : BitVec.ofInt 40 (b.toNat : Nat) = b := by
  apply BitVec.eq_of_toNat_eq
  rw [BitVec.toNat_ofInt]
  have := b.isLt
  omega
theorem ofInt40_mod (b : Int) : ((BitVec.ofInt 40 b).toNat : Int) = b % 1099511627776 := by
  rw [BitVec.toNat_ofInt]
  omega
theorem i64_xor40 (x : BitVec 40) (b : Int) : bits .xor .i64 (x.toNat : Int) (b % 1099511627776) = ((x ^^^ BitVec.ofInt 40 b).toNat : Int) := by
  have hx := x.isLt
  have hb := (BitVec.ofInt 40 b).isLt
  rw [← ofInt40_mod, BitVec.toNat_xor]
  generalize (BitVec.ofInt 40 b).toNat = y at *
  generalize x.toNat = z at *
  show IntKind.i64.wrap ((BitVec.ofInt 64 (z : Int) ^^^ BitVec.ofInt 64 (y : Int)).toNat : Int) = _
  rw [BitVec.toNat_xor, BitVec.toNat_ofInt, BitVec.toNat_ofInt, IntKind.wrap_i64, show ((z : Int) % ((2 ^ 64 : Nat) : Int)).toNat = z by omega, show ((y : Int) % ((2 ^ 64 : Nat) : Int)).toNat = y by omega]
  have : z ^^^ y < 2 ^ 40 := Nat.xor_lt_two_pow hx hb
  omega
theorem i64_xor_chk (x y : BitVec 40) : bits .xor .i64 (x.toNat : Int) (y.toNat : Int) = ((x ^^^ y).toNat : Int) := by
  have h := i64_xor40 x (y.toNat : Nat)
  rw [ofInt40_nat] at h
  rw [← h]
  have := y.isLt
  rw [Int.emod_eq_of_lt (by omega) (by omega)]
theorem jn_join (x y : BitVec 40) (n : Nat) : jn (x.toNat : Nat) (y.toNat : Nat) n = join x y n := by
  unfold jn join
  rw [ofInt40_nat, ofInt40_nat]
theorem elemInts : ElemOk Tryd.prog 36 3 := by
  obtain ⟨i, h1, h2, h3, h4⟩ := info_parts (show (Tryd.prog.info? 3).map (fun i => (i.zero, i.size, i.bytes)) = some (some (.int .i64 0), 1, 8) by kernel_rfl)
  exact ⟨by kernel_rfl, i, .int .i64 0, h1, h2, h3, by omega, rfl⟩
theorem fiveB_mod (x : Int) : fiveB (x % 1099511627776) = fiveB x := by
  have h : ∀ a b : Int, a % 256 = b % 256 → byteOf a = byteOf b := fun a b h => by unfold byteOf; rw [h]
  unfold fiveB
  rw [h (x % 1099511627776 / 2 ^ 32) (x / 2 ^ 32) (by omega), h (x % 1099511627776 / 2 ^ 24) (x / 2 ^ 24) (by omega), h (x % 1099511627776 / 2 ^ 16) (x / 2 ^ 16) (by omega), h (x % 1099511627776 / 2 ^ 8) (x / 2 ^ 8) (by omega), h (x % 1099511627776) x (by omega)]
theorem bytesOf_mod (l : List Int) : bytesOf (l.map (· % 1099511627776)) = bytesOf l := by
  induction l with
  | nil => rfl
  | cons x l ih =>
    show fiveB (x % 1099511627776) ++ bytesOf (l.map (· % 1099511627776)) = fiveB x ++ bytesOf l
    rw [fiveB_mod, ih]
theorem iv_append (a b : List Int) : iv (a ++ b) = iv a ++ iv b := by simp [iv]
end Go.Proofs.YtnfmgklpibknfaaDoor
