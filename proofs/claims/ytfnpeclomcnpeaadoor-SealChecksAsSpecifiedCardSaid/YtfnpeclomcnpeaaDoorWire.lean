/-
  What the encodings of lengths and texts compute, in the program and in the reference. Conditions: none.
-/
import Derived.Test.YtfnpeclomcnpeaaDoorSha6
import Derived.Lib.AppendStr
namespace Go.Proofs.YtfnpeclomcnpeaaDoor
set_option linter.unusedSimpArgs false
set_option linter.unusedVariables false
open Go.RowKit

/-- A number as bytes of seven bits, the lowest first. -/
def vint : Nat → Nat → List UInt8
  | 0, z => [UInt8.ofNat z]
  | f + 1, z => if z < 128 then [UInt8.ofNat z] else UInt8.ofNat (z % 128 + 128) :: vint f (z / 128)
theorem vint_small (f z : Nat) (h : z < 128) : vint f z = [UInt8.ofNat z] := by
  cases f with
  | zero => rfl
  | succ f => simp [vint, h]
theorem vint_big (f z : Nat) (h : ¬ z < 128) : vint (f + 1) z = UInt8.ofNat (z % 128 + 128) :: vint f (z / 128) := by simp [vint, h]
theorem length_vint (f z : Nat) : (vint f z).length ≤ f + 1 := by
  induction f generalizing z with
  | zero => simp [vint]
  | succ f ih =>
    unfold vint
    split
    · simp
    · simp only [List.length_cons]; have := ih (z / 128); omega
def encB (s : List UInt8) : List UInt8 := vint 9 (2 * s.length) ++ s
theorem or128 : ∀ x : Fin 256, bits .or .u8 ((x.val : Nat) : Int) 128 = ((x.val % 128 + 128 : Nat) : Int) := by decide +kernel
theorem or128_int (z : Nat) : bits .or .u8 ((z : Int) % 256) 128 = ((z % 128 + 128 : Nat) : Int) := by
  have h := or128 ⟨z % 256, Nat.mod_lt _ (by decide)⟩
  simp only at h
  rw [show ((z : Int) % 256) = ((z % 256 : Nat) : Int) by simp, h]
  omega
theorem strCells_bv (s : ByteArray) : Lib.strCells s = bv s.data.toList := rfl
/-- append, at a string. -/
theorem wpList_appStr {ops : Array Oper} {rest : List Oper} {o : Oper} {a : Act} {Q : Exit → Act → World → Prop} {w : World} (hgd : o.guard = none) {sl x : Operand}
    (ho : o.op = .call { callee := .builtin .append, args := #[sl, x], argTypes := #[89, 9] }) {B : Nat} {v : Value} {xs : List Value} (hs : a.eval sl = v) (hown : Own w B 5 v xs)
    {s : ByteArray} (hx : a.eval x = .string s) (hlen : xs.length + s.size ≤ 1099511627776) (hB : B ≤ w.heap.size)
    (h : ∀ v' w', Own w' B 5 v' (xs ++ bv s.data.toList) → Below B w w' → wpList Tryd.prog ops Q rest (a.put o.dst v') w') : wpList Tryd.prog ops Q (o :: rest) a w := by
  obtain ⟨i, h1, h2, h3, h4⟩ := info_parts (show (Tryd.prog.info? 5).map (fun i => (i.zero, i.size, i.bytes)) = some (some (.int .u8 0), 1, 1) by kernel_rfl)
  refine Lib.wpList_append_own_string w hgd sl x _ _ ho B 5 i (by kernel_rfl) (by kernel_rfl) h1 h2 h3 h4 v xs.length xs hs hown s hx (by simp only [maxLen]; omega) (by omega) hB ?_
  intro v' w' k1 k2 _
  refine h v' w' ?_ ((Below.refl B w).grown k2 hB fun k hk => ((World.ownsRow.lt hown) k hk).1)
  unfold Own
  rw [List.length_append, length_bv, show s.data.toList.length = s.size by simp]
  exact k1
set_option maxHeartbeats 1000000 in
theorem wireInt_any (m : Nat) (w : World) (hm : m < 1099511627776) :
    Calls Tryd.prog 62 #[.int .i64 (m : Nat)] w fun e w' => ∃ v, e = .returned v ∧ Own w' w.heap.size 5 v (bv (vint 9 (2 * m))) ∧ Below w.heap.size w w' := by
  have h63 : (m : Int) / 9223372036854775808 = 0 := by omega
  have hx : bits .xor .u64 ((m : Int) * 2) 0 = ((2 * m : Nat) : Int) := by
    have := u64_xor_bv (2 * m) 0 (by omega) (by omega)
    rw [show ((m : Int) * 2) = ((2 * m : Nat) : Int) by omega, show (0 : Int) = ((0 : Nat) : Int) from rfl, this]
    simp
  go_enter Tryd.func62, Tryd.ntmps62
  go_wp2_with fail
  go_loopw [3, 4] (fun x v wr => ∃ (f z : Nat) (acc : List UInt8), x = .int .u64 z ∧ z < 128 ^ (f + 1) ∧ f + acc.length ≤ 9 ∧ acc ++ vint f z = vint 9 (2 * m) ∧ Own wr w.heap.size 5 v (bv acc) ∧ Below w.heap.size w wr) (fun x _ _ => (intOf x).toNat)
  case atStart => exact ⟨9, 2 * m, [], by simp, by omega, by simp, by simp, Own.nil _ _ _, Below.refl _ _⟩
  case round =>
    obtain ⟨f, z, acc, rfl, hzf, hfa, hacc, hown, hb⟩ := hrel
    have hz := hb.size
    have hzl : z < 1180591620717411303424 := by
      have : 128 ^ (f + 1) ≤ 128 ^ 10 := Nat.pow_le_pow_right (by omega) (by omega)
      omega
    have HA := Lib.hid hacc
    clear hacc
    by_cases hlt : z < 128
    · have hv := vint_small f z hlt
      have HV := Lib.hid hv
      have hz2 : ¬ (127 : Int) < z := by omega
      have hd : decide ((127 : Int) < (z : Int)) = false := by simpa using hz2
      clear hv hzf hzl
      go_wp2_with (at_builtin; refine wpList_app rfl rfl elemBytes rfl (hown.alloc _) rfl (Rd.new1 _ _ _) (one1 rfl) (by rw [length_bv]; omega) (by simp; omega) ?_; intro v' w' hown' hg' hb' _)
      go_ret
      refine ⟨_, rfl, ?_, (hb.alloc hz _).trans hb'⟩
      rw [← HA.out, HV.out, bv_append, show bv [UInt8.ofNat z] = [.int .u8 (z : Nat)] by simp [bv, UInt8.toNat_ofNat']; omega]
      exact hown'
    · obtain ⟨f, rfl⟩ : ∃ g, f = g + 1 := by
        cases f with
        | zero => exfalso; simp at hzf; omega
        | succ f => exact ⟨f, rfl⟩
      have hv := vint_big f z hlt
      have HV := Lib.hid hv
      have hd : decide ((127 : Int) < (z : Int)) = true := by simp; omega
      have ho := or128_int z
      have hq : z / 128 < 128 ^ (f + 1) := by
        rw [Nat.div_lt_iff_lt_mul (by omega)]; rw [Nat.pow_succ] at hzf; exact hzf
      have HQ := Lib.hid hq
      clear hv hzf hq
      go_wp2_with (at_builtin; refine wpList_app rfl rfl elemBytes rfl (hown.alloc _) rfl (Rd.new1 _ _ _) (one1 rfl) (by rw [length_bv]; omega) (by simp; omega) ?_; intro v' w' hown' hg' hb' _)
      refine ⟨⟨f, z / 128, acc ++ [UInt8.ofNat (z % 128 + 128)], by simp, HQ.out, by simp; omega, by rw [← HA.out, HV.out, List.append_assoc]; rfl, ?_, (hb.alloc hz _).trans hb'⟩, ?_⟩
      · rw [bv_append, show bv [UInt8.ofNat (z % 128 + 128)] = [.int .u8 ((z % 128 + 128 : Nat) : Int)] by simp [bv, UInt8.toNat_ofNat']; omega]
        exact hown'
      · simp [intOf]; omega
theorem wireInt_int (n : Int) (m : Nat) (w : World) (hn : n = m) (hm : m < 1099511627776) :
    Calls Tryd.prog 62 #[.int .i64 n] w fun e w' => ∃ v, e = .returned v ∧ Own w' w.heap.size 5 v (bv (vint 9 (2 * m))) ∧ Below w.heap.size w w' := by
  subst hn; exact wireInt_any m w hm
set_option maxHeartbeats 1000000 in
theorem wireBytes_any (s : ByteArray) (w : World) (hs : s.size < 1073741824) :
    Calls Tryd.prog 54 #[.string s] w fun e w' => ∃ v, e = .returned v ∧ Own w' w.heap.size 5 v (bv (encB s.data.toList)) ∧ Below w.heap.size w w' := by
  go_enter Tryd.func54, Tryd.ntmps54
  go_wp2_with fail
  refine (wireInt_int _ s.size _ rfl (by omega)).mono ?_
  rintro e w1 ⟨v1, rfl, hown1, hb1⟩
  have hl := length_vint 9 (2 * s.size)
  have hz := hb1.size
  go_wp2_with (at_builtin; refine wpList_appStr rfl rfl rfl hown1 rfl (by rw [length_bv]; omega) hz ?_; intro v' w' hown' hb')
  go_ret
  refine ⟨_, rfl, ?_, hb1.trans hb'⟩
  unfold encB
  rw [bv_append, show s.data.toList.length = s.size by simp]
  exact hown'
end Go.Proofs.YtfnpeclomcnpeaaDoor
