/-
  What Xor of the reference computes. Conditions: none.
-/
import Derived.Test.YtnfmgklpibknfaaDoorGrd
namespace Go.Proofs.YtnfmgklpibknfaaDoor
set_option linter.unusedSimpArgs false
set_option linter.unusedVariables false
open Go.RowKit Sha Crc
theorem ofInt8 (a : Nat) : (BitVec.ofInt 8 (a : Int)).toNat = a % 256 := by
  rw [BitVec.ofInt_natCast, BitVec.toNat_ofNat]
theorem u8_xor (x y : UInt8) : bits .xor .u8 ((x.toNat : Nat) : Int) ((y.toNat : Nat) : Int) = (((x ^^^ y).toNat : Nat) : Int) := by
  have hx := x.toNat_lt
  have hy := y.toNat_lt
  rw [UInt8.toNat_xor]
  show IntKind.u8.wrap ((BitVec.ofInt 8 (x.toNat : Int) ^^^ BitVec.ofInt 8 (y.toNat : Int)).toNat : Int) = _
  rw [BitVec.toNat_xor, ofInt8, ofInt8, IntKind.wrap_u8, Nat.mod_eq_of_lt hx, Nat.mod_eq_of_lt hy]
  have : x.toNat ^^^ y.toNat < 2 ^ 8 := Nat.xor_lt_two_pow (by omega) (by omega)
  omega
theorem make_bytes (n : Nat) (W : World) (hn : n ≤ 1073741824) :
    (Instr.makeSlice 22 (.int .i64 (n : Nat)) (.int .i64 (n : Nat))).run Tryd.prog W = .ok (.slice (some ⟨W.heap.size, 0, none⟩) n n) (W.alloc (.cells (bv (List.replicate n 0)).toArray 5)) := by
  obtain ⟨i, h1, h2, h3, h4⟩ := info_parts (show (Tryd.prog.info? 5).map (fun i => (i.zero, i.size, i.bytes)) = some (some (.int .u8 0), 1, 1) by kernel_rfl)
  rw [run_make W 22 5 i (.int .u8 0) (by kernel_rfl) h1 h2 .i64 .i64 n n (by omega) (Int.le_refl _) (by rw [h4]; omega) (by omega), h3]
  have e : madeCells (Value.int .u8 0).cells (((n : Nat) : Int).toNat * 1) = (bv (List.replicate n 0)).toArray := by
    apply Array.ext
    · simp [madeCells]
    · intro j _ _
      simp [madeCells, Value.cells, bv, Nat.mod_one]
  rw [e]
  simp
set_option maxHeartbeats 1000000 in
theorem refXor_any (A : Option Addr) (n c : Nat) (a : List UInt8) (B : Option Addr) (m d : Nat) (b : List UInt8) (w : World) (hn : n ≤ 1073741824) (hra : Rd w A n (bv a)) (hm : m ≤ 9223372036854775807) (hrb : Rd w B m (bv b)) :
    Calls Tryd.prog 28 #[.slice A n c, .slice B m d] w fun e w' => ∃ v, e = .returned v ∧ Own w' w.heap.size 5 v (bv (xorL a b)) ∧ Below w.heap.size w w' := by
  have HA := Lib.hid (show a.length = n by have := hra.len; simpa using this)
  have HB := Lib.hid (show b.length = m by have := hrb.len; simpa using this)
  go_enter Tryd.func28, Tryd.ntmps28
  go_wp2_with fail
  go_loopw [5, 6, 7] (fun v i _ wr => ∃ k : Nat, k ≤ n ∧ i = .int .i64 k ∧ Own wr w.heap.size 5 v (bv ((xorL a b).take k)) ∧ Below w.heap.size w wr) (fun _ i _ _ => n - (intOf i).toNat)
  case atStart => exact ⟨0, Nat.zero_le _, rfl, Own.nil _ _ _, Below.refl _ _⟩
  case round =>
    obtain ⟨k, hk, rfl, hown, hb⟩ := hrel
    have hz := hb.size
    by_cases hlt : k < n
    · obtain ⟨ad, rfl, hc⟩ := (hra.below hb).byteD hlt HA.out
      have hx := xorL_at a b k (by rw [HA.out]; exact hlt)
      rw [HB.out] at hx
      have hxl : k < (xorL a b).length := by rw [length_xorL, HA.out]; exact hlt
      have HT := Lib.hid (List.take_succ_eq_append_getElem hxl)
      rw [List.getElem?_eq_getElem hxl] at hx
      injection hx with hx
      have HX := Lib.hid hx
      clear hx
      have HLT : Hid ((bv ((xorL a b).take k)).length ≤ n) := by show _ ≤ _; rw [length_bv, List.length_take]; omega
      by_cases hkm : k < m
      · obtain ⟨ad2, rfl, hc2⟩ := (hrb.below hb).byteD hkm HB.out
        have hx8 := u8_xor (a.getD k 0) (b.getD k 0)
        have HX8 := Lib.hid (show (xorL a b)[k] = a.getD k 0 ^^^ b.getD k 0 by rw [HX.out, if_pos hkm])
        generalize a.getD k 0 = xa at *
        generalize b.getD k 0 = xb at *
        go_wp2_with (at_builtin; refine wpList_app rfl rfl elemBytes rfl (hown.alloc _) rfl (Rd.new1 _ _ _) (one1 rfl) (by have := HLT.out; omega) (by simp; omega) ?_; intro v' w' hown' hg' hb' _)
        refine ⟨⟨k + 1, by omega, by go_num, ?_, (hb.alloc hz _).trans hb'⟩, by simp [intOf]; omega⟩
        rw [HT.out, HX8.out, bv_append]
        exact hown'
      · have HX8 := Lib.hid (show (xorL a b)[k] = a.getD k 0 by rw [HX.out, if_neg hkm])
        generalize a.getD k 0 = xa at *
        go_wp2_with (at_builtin; refine wpList_app rfl rfl elemBytes rfl (hown.alloc _) rfl (Rd.new1 _ _ _) (one1 rfl) (by have := HLT.out; omega) (by simp; omega) ?_; intro v' w' hown' hg' hb' _)
        refine ⟨⟨k + 1, by omega, by go_num, ?_, (hb.alloc hz _).trans hb'⟩, by simp [intOf]; omega⟩
        rw [HT.out, HX8.out, bv_append]
        exact hown'
    · obtain rfl : k = n := by omega
      rw [List.take_of_length_le (by rw [length_xorL, HA.out]; omega)] at hown
      go_wp2
      go_ret
      exact ⟨_, rfl, hown, hb⟩
end Go.Proofs.YtnfmgklpibknfaaDoor
