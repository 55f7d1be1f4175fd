/-
  These texts, joined.
  The library's numbers of bits, as the program asks for them: the length, the digits 1, the low digits 0; the greatest power of 2 below a number. Conditions: the library's table stands; the number is small.
  Roots, the program's and the reference's; lists held against each other. Conditions: at most 1000000 digests; the tables of constants stand.
  The reference's helpers: lists held against each other; a list with one more digest; the proof of an element, of a beginning. Conditions: at most 1000000 digests; the tables of constants stand.
  The reference's proofs of an element and of a beginning. Conditions: at most 1000000 digests; the tables of constants stand.
  The reference's Inclusion and Consistency. Conditions: at most 1000000 digests; the tables of constants stand.
  The reference's proof of a beginning. Conditions: at most 1000000 digests; the tables of constants stand.
-/
import Derived.Test.YtgggpnjnhhkmgaaDoorB4
import Derived.Test.YtgggpnjnhhkmgaaDoorB0Nl
import Derived.Lib.TrailingZeros
import Derived.Laws.Bits128
namespace Go.Proofs.YtgggpnjnhhkmgaaDoor
set_option linter.unusedSimpArgs false
set_option linter.unusedVariables false
open Go.RowKit Exch
theorem len_any (x : Int) (w : World) (h0 : 0 ≤ x) (h1 : x ≤ 18446744073709551615) :
    Calls Tryd.prog 59 #[.int .u64 x] w fun e w' => e = .returned (.int .i64 (Lib.bitLen x.toNat)) ∧ w' = w := by
  go_enter Tryd.func59, Tryd.ntmps59
  go_wp2_with (go_at_call 75; refine (len64_any x _ h0 h1).mono ?_; rintro e w' ⟨rfl, rfl⟩)
  go_ret
  exact ⟨rfl, rfl⟩
theorem bitLen_log : ∀ (k x : Nat), x ≤ k → x ≠ 0 → x < 2 ^ 64 → Lib.bitLen x = x.log2 + 1
  | 0, x, h, h0, _ => by omega
  | k + 1, x, h, h0, hx => by
    rw [Lib.bitLen_half x h0 hx]
    by_cases h2 : x / 2 = 0
    · obtain rfl : x = 1 := by omega
      decide
    · rw [bitLen_log k (x / 2) (by omega) h2 (by omega)]
      conv => rhs; rw [Nat.log2_def, if_pos (by omega)]
      omega
theorem split_any (n : Nat) (w : World) (h : 2 ≤ n) (h2 : n ≤ 1099511627776) : Calls Tryd.prog 33 #[.int .i64 n] w fun e w' => e = .returned (.int .i64 (Merk.split n : Nat)) ∧ w' = w := by
  have hL := Lib.hid (bitLen_log _ (n - 1) (Nat.le_refl _) (by omega) (by omega))
  have hc : (0 : Int) ≤ (n : Int) - 1 ∧ (n : Int) - 1 ≤ 1099511627776 := by omega
  have HC : ∀ W, Calls Tryd.prog 59 #[.int .u64 ((n : Int) - 1)] W fun e w' => e = .returned (.int .i64 ((n - 1).log2 + 1 : Nat)) ∧ w' = W := fun W => by
    have := len_any ((n : Int) - 1) W (by omega) (by omega)
    rw [show ((n : Int) - 1).toNat = n - 1 by omega, hL.out] at this
    exact this
  have HC2 := Lib.hid HC
  have hl : (n - 1).log2 < 41 := (Nat.log2_lt (by omega)).2 (by omega)
  show Calls _ _ _ _ fun e w' => e = .returned (.int .i64 ((2 ^ (n - 1).log2 : Nat) : Int)) ∧ w' = w
  clear HC
  generalize (n - 1).log2 = L at *
  go_enter Tryd.func33, Tryd.ntmps33
  go_wp2_with (go_at_call 59; refine (HC2.out _).mono ?_; rintro e w' ⟨rfl, rfl⟩)
  go_ret
  have hp : (2 : Nat) ^ L ≤ 2 ^ 40 := Nat.pow_le_pow_right (by omega) (by omega)
  have e : wrap64 (2 ^ L) = ((2 ^ L : Nat) : Int) := by
    rw [show ((2 : Int) ^ L) = ((2 ^ L : Nat) : Int) by norm_cast]
    have : ((2 ^ L : Nat) : Int) ≤ ((2 ^ 40 : Nat) : Int) := Int.ofNat_le.2 hp
    have h0 : 0 ≤ ((2 ^ L : Nat) : Int) := Int.natCast_nonneg _
    unfold wrap64; generalize ((2 ^ L : Nat) : Int) = Z at *; omega
  exact ⟨by show Ending.returned (Value.int IntKind.i64 (wrap64 (2 ^ L))) = _; rw [e], rfl⟩
theorem ones64_any (n : Nat) (w : World) (h : n < 18446744073709551616) : Calls Tryd.prog 83 #[.int .u64 n] w fun e w' => e = .returned (.int .i64 (Merk.ones n : Nat)) ∧ w' = w := by
  obtain ⟨x1, e1⟩ : ∃ x1, x1 = (n / 2 &&& 6148914691236517205) + (n &&& 6148914691236517205) := ⟨_, rfl⟩
  obtain ⟨x2, e2⟩ : ∃ x2, x2 = (x1 / 4 &&& 3689348814741910323) + (x1 &&& 3689348814741910323) := ⟨_, rfl⟩
  obtain ⟨x3, e3⟩ : ∃ x3, x3 = (x2 / 16 + x2) &&& 1085102592571150095 := ⟨_, rfl⟩
  obtain ⟨x4, e4⟩ : ∃ x4, x4 = x3 + x3 / 256 := ⟨_, rfl⟩
  obtain ⟨x5, e5⟩ : ∃ x5, x5 = x4 + x4 / 65536 := ⟨_, rfl⟩
  obtain ⟨x6, e6⟩ : ∃ x6, x6 = x5 + x5 / 4294967296 := ⟨_, rfl⟩
  obtain ⟨hp, l1, l2, l2', l3, l4, l5, l6⟩ := Merk.pop_all n x1 x2 x3 x4 x5 x6 h e1 e2 e3 e4 e5 e6
  rw [Merk.ones_sum n h] at hp
  have a1 : IntKind.u64.wrap (bits .and .u64 ((n : Int) / 2) 6148914691236517205 + bits .and .u64 (n : Int) 6148914691236517205) = (x1 : Int) := by
    have b1 := u64_and_nat (n / 2) 6148914691236517205 (by omega) (by omega)
    have b2 := u64_and_nat n 6148914691236517205 (by omega) (by omega)
    rw [show ((n : Int) / 2) = ((n / 2 : Nat) : Int) by omega]
    refine (congrArg IntKind.u64.wrap (congr (congrArg _ b1) b2)).trans ?_
    rw [IntKind.wrap_u64]; omega
  have a2 : IntKind.u64.wrap (bits .and .u64 ((x1 : Int) / 4) 3689348814741910323 + bits .and .u64 (x1 : Int) 3689348814741910323) = (x2 : Int) := by
    have b1 := u64_and_nat (x1 / 4) 3689348814741910323 (by omega) (by omega)
    have b2 := u64_and_nat x1 3689348814741910323 (by omega) (by omega)
    rw [show ((x1 : Int) / 4) = ((x1 / 4 : Nat) : Int) by omega]
    refine (congrArg IntKind.u64.wrap (congr (congrArg _ b1) b2)).trans ?_
    rw [IntKind.wrap_u64]; omega
  have a3 : bits .and .u64 (IntKind.u64.wrap ((x2 : Int) / 16 + (x2 : Int))) 1085102592571150095 = (x3 : Int) := by
    have b1 := u64_and_nat (x2 / 16 + x2) 1085102592571150095 (by omega) (by omega)
    rw [IntKind.wrap_u64, show ((x2 : Int) / 16 + (x2 : Int)) % 18446744073709551616 = ((x2 / 16 + x2 : Nat) : Int) by omega]
    rw [e3]; exact b1
  have a4 : IntKind.u64.wrap ((x3 : Int) + (x3 : Int) / 256) = (x4 : Int) := by rw [IntKind.wrap_u64]; omega
  have a5 : IntKind.u64.wrap ((x4 : Int) + (x4 : Int) / 65536) = (x5 : Int) := by rw [IntKind.wrap_u64]; omega
  have a6 : IntKind.u64.wrap ((x5 : Int) + (x5 : Int) / 4294967296) = (x6 : Int) := by rw [IntKind.wrap_u64]; omega
  have HA := Lib.hid (And.intro a1 (And.intro a2 (And.intro a3 (And.intro a4 (And.intro a5 a6)))))
  have HP := Lib.hid hp
  have HL := Lib.hid l6
  clear hp l1 l2 l2' l3 l4 l5 l6 e1 e2 e3 e4 e5 e6 a1 a2 a3 a4 a5 a6
  generalize Merk.ones n = R at *
  go_enter Tryd.func83, Tryd.ntmps83
  go_wp2
  obtain ⟨a1, a2, a3, a4, a5, a6⟩ := HA.out
  simp only [a1, a2, a3, a4, a5, a6]
  have l6 := HL.out
  have e : bits .and .i64 (wrap64 (x6 : Int)) 127 = (R : Int) := by
    rw [show wrap64 (x6 : Int) = (x6 : Int) by unfold wrap64; omega, i64_and127, ← HP.out]
    omega
  rw [e]
  go_ret
  exact ⟨rfl, rfl⟩
theorem ctz_t1 : ∀ (f n : Nat), n + 1 < 2 ^ f → Lib.ctzFrom f (2 ^ f - 1 - n) = Merk.t1 n
  | 0, n, h => by simp at h
  | f + 1, n, h => by
    rw [Nat.pow_succ] at h ⊢
    have hp := Nat.pow_pos (n := f) (show 0 < 2 by omega)
    rw [Lib.ctzFrom, Merk.t1]
    by_cases h1 : n % 2 = 1
    · rw [if_neg (by omega), if_pos h1, show (2 ^ f * 2 - 1 - n) / 2 = 2 ^ f - 1 - n / 2 by omega, ctz_t1 f (n / 2) (by omega)]
    · rw [if_pos (by omega), if_neg h1]
def GBru (w : World) : Prop := ∀ k, k < 64 → w.cell? ⟨1, k, none⟩ = some (.int .u8 (Lib.deBruijn64tab.getD k 0 : Nat))
theorem tz64_any (x : Nat) (w : World) (h : x < 18446744073709551616) (h0 : x ≠ 0) (hg : GBru w) : Calls Tryd.prog 71 #[.int .u64 x] w fun e w' => e = .returned (.int .i64 (Lib.ctz 64 x : Nat)) ∧ w' = w := by
  obtain ⟨hlow, hlt⟩ := Lib.lowest_bit 64 x h0 h
  obtain ⟨hj, ht⟩ := Lib.deBruijn64_at _ hlt
  have hk : Lib.ctz 64 x ≤ 63 := by omega
  obtain ⟨j, hJ⟩ : ∃ j, j = 2 ^ Lib.ctz 64 x * 285870213051353865 % 18446744073709551616 / 288230376151711744 := ⟨_, rfl⟩
  rw [← hJ] at hj ht
  have hc := hg j hj
  rw [ht] at hc
  have hneg : IntKind.u64.wrap (-(x : Int)) = ((2 ^ 64 - x : Nat) : Int) := by rw [IntKind.wrap_u64]; omega
  have hand : bits .and .u64 (x : Int) (IntKind.u64.wrap (-(x : Int))) = ((2 ^ Lib.ctz 64 x : Nat) : Int) := by
    rw [hneg, u64_and_nat _ _ h (by omega), hlow]
  have hidx : IntKind.u64.wrap (bits .and .u64 (x : Int) (IntKind.u64.wrap (-(x : Int))) * 285870213051353865) / 288230376151711744 = (j : Int) := by
    rw [hand, IntKind.wrap_u64, hJ]
    generalize 2 ^ Lib.ctz 64 x = Z
    omega
  have hj2 : 0 ≤ (j : Int) ∧ (j : Int) < 64 := by omega
  have hx : ((x : Int) == 0) = false := by simp; omega
  clear hlow hlt ht hJ hneg hand hg
  generalize Lib.ctz 64 x = R at *
  go_enter Tryd.func71, Tryd.ntmps71
  go_wp2
  go_ret
  exact ⟨rfl, rfl⟩
theorem ctz_not (n : Nat) (h : n ≤ 1099511627776) : Lib.ctz 64 (18446744073709551615 - n) = Merk.t1 n := by
  have := ctz_t1 64 n (by omega)
  unfold Lib.ctz
  rw [if_neg (by omega)]
  exact this
theorem ones_any (n : Nat) (w : World) (h : n < 18446744073709551616) : Calls Tryd.prog 69 #[.int .u64 n] w fun e w' => e = .returned (.int .i64 (Merk.ones n : Nat)) ∧ w' = w := by
  have HC := Lib.hid (fun W => ones64_any n W h)
  generalize Merk.ones n = R at *
  go_enter Tryd.func69, Tryd.ntmps69
  go_wp2_with (go_at_call 83; refine (HC.out _).mono ?_; rintro e w' ⟨rfl, rfl⟩)
  go_ret
  exact ⟨rfl, rfl⟩
theorem tz_any (x : Nat) (w : World) (h : x < 18446744073709551616) (h0 : x ≠ 0) (hg : GBru w) : Calls Tryd.prog 55 #[.int .u64 x] w fun e w' => e = .returned (.int .i64 (Lib.ctz 64 x : Nat)) ∧ w' = w := by
  have HC := Lib.hid (tz64_any x w h h0 hg)
  clear hg
  generalize Lib.ctz 64 x = R at *
  go_enter Tryd.func55, Tryd.ntmps55
  go_wp2_with (go_at_call 71; refine HC.out.mono ?_; rintro e w' ⟨rfl, rfl⟩)
  go_ret
  exact ⟨rfl, rfl⟩
theorem GBru.lt {w : World} (h : GBru w) : 1 < w.heap.size := World.block_lt_of_cell? w _ (h 0 (by omega))
theorem GBru.below {w w' : World} (h : GBru w) (hb : Below w.heap.size w w') : GBru w' := fun k hk => (hb.cell (p := ⟨_, k, none⟩) h.lt).trans (h k hk)
/-! Peaks. -/
abbrev pkC (s : Int) (A : Option Addr) (n c : Nat) : Array Value := #[.int .i64 s, .slice A n c]
abbrev pkV (s : Int) (A : Option Addr) (n c : Nat) : Value := .agg (pkC s A n c)
theorem aggPk : (Tryd.prog.underlying 51).map isAggDesc = some true := by kernel_rfl
theorem sizePk : (Tryd.prog.info? 51).map (·.size) = some 2 := by kernel_rfl
theorem zeroPk (W : World) : (zeroValue 51).run Tryd.prog W = .ok (pkV 0 none 0 0) W := by kernel_rfl
def formedB (s : Int) (n : Nat) : Bool := decide (0 ≤ s) && (decide (s ≤ 1099511627776) && decide (n = Merk.ones s.toNat))
set_option maxRecDepth 20000 in
set_option maxHeartbeats 1000000 in
theorem formed_any (s : Int) (A : Option Addr) (n c : Nat) (w : World) : Calls Tryd.prog 54 #[pkV s A n c] w fun e w' => e = .returned (.bool (formedB s n)) ∧ Below w.heap.size w w' := by
  obtain ⟨wa, hwa, hb0, q0⟩ : ∃ wa : World, wa = w.alloc (.cells (pkC s A n c) 51) ∧ Below w.heap.size w wa ∧ Blk wa w.heap.size 51 (pkC s A n c) :=
    ⟨_, rfl, (Below.refl w.heap.size w).alloc (Nat.le_refl _) _, Blk.new _ _ _⟩
  have c0 : wa.cell? ⟨w.heap.size, 0, none⟩ = some (.int .i64 s) := q0.cell 0
  have c1 : wa.cell? ⟨w.heap.size, 1, none⟩ = some (.slice A n c) := q0.cell 1
  have HWA := Lib.hid hwa
  clear hwa q0
  have hS : Below wa.heap.size wa wa.drew := (Below.refl _ _).drew
  by_cases h0 : 0 ≤ s
  · by_cases h1 : s ≤ 1099511627776
    · obtain ⟨k, rfl⟩ : ∃ k : Nat, s = k := ⟨s.toNat, by omega⟩
      have hk : k ≤ 1099511627776 := by omega
      have hC := Lib.hid (fun W => ones_any k W (by omega))
      have hf : formedB k n = decide (n = Merk.ones k) := by simp [formedB, h1]
      rw [hf]
      clear hf
      generalize Merk.ones k = R at *
      have hcv : wrap64 (k : Int) = (k : Int) := by unfold wrap64; omega
      have hcu : IntKind.u64.wrap (k : Int) = (k : Int) := by rw [IntKind.wrap_u64]; omega
      have g0 : decide (0 ≤ (k : Int)) = true := by simp
      have g1 : decide ((k : Int) ≤ 1099511627776) = true := by simp; omega
      have ge : ((n : Int) == (R : Int)) = decide (n = R) := by by_cases h : n = R <;> simp [h] <;> omega
      have HE := Lib.hid ge
      clear ge
      go_enter Tryd.func54, Tryd.ntmps54
      go_upto_region 1 with (fail)
      change Code.wp _ _ _ _ (w.alloc (.cells (pkC k A n c) 51))
      rw [← HWA.out]
      refine wp_region_T 18 (by kernel_rfl) ?_
      refine WpT.take (i := 0) rfl (by kernel_rfl) (fun _ _ _ h => h) (.inl ⟨by rfl, fun w hSw => by clear hSw; go_simp; (try go_bits); (try rw [if_pos (by omega)]); (try with_reducible rfl)⟩) (hS) ?_
      try simp only [nrm]
      refine WpT.take (i := 1) rfl (by kernel_rfl) (fun _ _ _ h => h) (yields_load rfl rfl rfl (by kernel_rfl) c0) (hS) ?_
      try simp only [nrm]
      refine WpT.take (i := 2) rfl (by kernel_rfl) (fun _ _ _ h => h) (.inl ⟨by rfl, fun w hSw => by clear hSw; go_simp; (try go_bits); (try rw [if_pos (by omega)]); (try with_reducible rfl)⟩) (hS) ?_
      try simp only [nrm]
      refine WpT.take (i := 3) rfl (by kernel_rfl) (fun _ _ _ h => h) (.inl ⟨by rfl, fun w hSw => by clear hSw; go_simp; (try go_bits); (try rw [if_pos (by omega)]); (try with_reducible rfl)⟩) (hS) ?_
      try simp only [nrm]
      refine WpT.take (i := 4) rfl (by kernel_rfl) (fun _ _ _ h => h) (.inl ⟨by rfl, fun w hSw => by clear hSw; go_simp; (try go_bits); (try rw [if_pos (by omega)]); (try with_reducible rfl)⟩) (hS) ?_
      try simp only [nrm]
      refine WpT.take (i := 5) rfl (by kernel_rfl) (fun _ _ _ h => h) (yields_loadW (by rfl) rfl rfl (by kernel_rfl) c0) (hS) ?_
      try simp only [nrm]
      refine WpT.take (i := 6) rfl (by kernel_rfl) (fun _ _ _ h => h) (.inl ⟨by rfl, fun w hSw => by clear hSw; go_simp; (try go_bits); (try rw [if_pos (by omega)]); (try with_reducible rfl)⟩) (hS) ?_
      try simp only [nrm]
      refine WpT.take (i := 7) rfl (by kernel_rfl) (fun _ _ _ h => h) (.inl ⟨by rfl, fun w hSw => by clear hSw; go_simp; (try go_bits); (try rw [if_pos (by omega)]); (try with_reducible rfl)⟩) (hS) ?_
      try simp only [nrm]
      refine WpT.take (i := 8) rfl (by kernel_rfl) (fun _ _ _ h => h) (.inl ⟨by rfl, fun w hSw => by clear hSw; go_simp; (try go_bits); (try rw [if_pos (by omega)]); (try with_reducible rfl)⟩) (hS) ?_
      try simp only [nrm]
      refine WpT.take (i := 9) rfl (by kernel_rfl) (fun _ _ _ h => h) (.inl ⟨by rfl, fun w hSw => by clear hSw; go_simp; (try go_bits); (try rw [if_pos (by omega)]); (try with_reducible rfl)⟩) (hS) ?_
      try simp only [nrm]
      refine WpT.take (i := 10) rfl (by kernel_rfl) (fun _ _ _ h => h) (yields_loadW (by rfl) rfl rfl (by kernel_rfl) c1) (hS) ?_
      try simp only [nrm]
      refine WpT.take (i := 11) rfl (by kernel_rfl) (fun _ _ _ h => h) (.inl ⟨by rfl, fun w hSw => by clear hSw; go_simp; (try go_bits); (try rw [if_pos (by omega)]); (try with_reducible rfl)⟩) (hS) ?_
      try simp only [nrm]
      refine WpT.take (i := 12) rfl (by kernel_rfl) (fun _ _ _ h => h) (.inl ⟨by rfl, fun w hSw => by clear hSw; go_simp; (try go_bits); (try rw [if_pos (by omega)]); (try with_reducible rfl)⟩) (hS) ?_
      try simp only [nrm]
      refine WpT.take (i := 13) rfl (by kernel_rfl) (fun _ _ _ h => h) (yields_loadW (by rfl) rfl rfl (by kernel_rfl) c0) (hS) ?_
      try simp only [nrm]
      refine WpT.take (i := 14) rfl (by kernel_rfl) (fun _ _ _ h => h) (.inl ⟨by rfl, fun w hSw => by clear hSw; go_simp; (try go_bits); (try rw [if_pos (by omega)]); (try with_reducible rfl)⟩) (hS) ?_
      try simp only [nrm]
      refine WpT.one (i := 15) rfl (by kernel_rfl) (fun K hK => ?_)
      refine (if_pos (by rfl)).mpr ?_; go_simp; refine (hC.out _).mono ?_; rintro e w5 ⟨rfl, rfl⟩
      refine hK _ _ (hS) ?_; clear hK K; try simp only [nrm]
      refine WpT.take (i := 16) rfl (by kernel_rfl) (fun _ _ _ h => h) (.inl ⟨by rfl, fun w hSw => by clear hSw; go_simp; (try go_bits); (try rw [if_pos (by omega)]); (try with_reducible rfl)⟩) (hS) ?_
      try simp only [nrm]
      refine WpT.take (i := 17) rfl (by kernel_rfl) (fun _ _ _ h => h) (.inl ⟨by rfl, fun w hSw => by clear hSw; go_simp; (try go_bits); (try rw [if_pos (by omega)]); (try with_reducible rfl)⟩) (hS) ?_
      try simp only [nrm]
      refine WpT.tail (i := 18) rfl (by kernel_rfl) (by kernel_rfl) (fun K hK => ?_)
      go_simp; (try go_bits)
      refine hK _ _ ?_; clear hK K; try simp only [nrm]
      refine WpT.done (by kernel_rfl) ?_ _
      go_wp2_with fail; go_ret; exact ⟨by first | rfl | (simp [HE.out]), bstep hb0 hS⟩
    · have hf : formedB s n = false := by simp [formedB, h1]
      rw [hf]
      have g0 : decide (0 ≤ s) = true := by simp [h0]
      have g1 : decide (s ≤ 1099511627776) = false := by simp; omega
      go_enter Tryd.func54, Tryd.ntmps54
      go_upto_region 1 with (fail)
      change Code.wp _ _ _ _ (w.alloc (.cells (pkC s A n c) 51))
      rw [← HWA.out]
      refine wp_region_T 18 (by kernel_rfl) ?_
      refine WpT.take (i := 0) rfl (by kernel_rfl) (fun _ _ _ h => h) (.inl ⟨by rfl, fun w hSw => by clear hSw; go_simp; (try go_bits); (try rw [if_pos (by omega)]); (try with_reducible rfl)⟩) (hS) ?_
      try simp only [nrm]
      refine WpT.take (i := 1) rfl (by kernel_rfl) (fun _ _ _ h => h) (yields_load rfl rfl rfl (by kernel_rfl) c0) (hS) ?_
      try simp only [nrm]
      refine WpT.take (i := 2) rfl (by kernel_rfl) (fun _ _ _ h => h) (.inl ⟨by rfl, fun w hSw => by clear hSw; go_simp; (try go_bits); (try rw [if_pos (by omega)]); (try with_reducible rfl)⟩) (hS) ?_
      try simp only [nrm]
      refine WpT.take (i := 3) rfl (by kernel_rfl) (fun _ _ _ h => h) (.inl ⟨by rfl, fun w hSw => by clear hSw; go_simp; (try go_bits); (try rw [if_pos (by omega)]); (try with_reducible rfl)⟩) (hS) ?_
      try simp only [nrm]
      refine WpT.take (i := 4) rfl (by kernel_rfl) (fun _ _ _ h => h) (.inl ⟨by rfl, fun w hSw => by clear hSw; go_simp; (try go_bits); (try rw [if_pos (by omega)]); (try with_reducible rfl)⟩) (hS) ?_
      try simp only [nrm]
      refine WpT.take (i := 5) rfl (by kernel_rfl) (fun _ _ _ h => h) (yields_loadW (by rfl) rfl rfl (by kernel_rfl) c0) (hS) ?_
      try simp only [nrm]
      refine WpT.take (i := 6) rfl (by kernel_rfl) (fun _ _ _ h => h) (.inl ⟨by rfl, fun w hSw => by clear hSw; go_simp; (try go_bits); (try rw [if_pos (by omega)]); (try with_reducible rfl)⟩) (hS) ?_
      try simp only [nrm]
      refine WpT.take (i := 7) rfl (by kernel_rfl) (fun _ _ _ h => h) (.inl ⟨by rfl, fun w hSw => by clear hSw; go_simp; (try go_bits); (try rw [if_pos (by omega)]); (try with_reducible rfl)⟩) (hS) ?_
      try simp only [nrm]
      refine WpT.take (i := 8) rfl (by kernel_rfl) (fun _ _ _ h => h) (.inl ⟨by rfl, fun w hSw => by clear hSw; go_simp; (try go_bits); (try rw [if_pos (by omega)]); (try with_reducible rfl)⟩) (hS) ?_
      try simp only [nrm]
      refine WpT.take (i := 9) rfl (by kernel_rfl) (fun _ _ _ h => h) (.inr ⟨by rfl, rfl⟩) (hS) ?_
      try simp only [nrm]
      refine WpT.take (i := 10) rfl (by kernel_rfl) (fun _ _ _ h => h) (.inr ⟨by rfl, rfl⟩) (hS) ?_
      try simp only [nrm]
      refine WpT.take (i := 11) rfl (by kernel_rfl) (fun _ _ _ h => h) (.inr ⟨by rfl, rfl⟩) (hS) ?_
      try simp only [nrm]
      refine WpT.take (i := 12) rfl (by kernel_rfl) (fun _ _ _ h => h) (.inr ⟨by rfl, rfl⟩) (hS) ?_
      try simp only [nrm]
      refine WpT.take (i := 13) rfl (by kernel_rfl) (fun _ _ _ h => h) (.inr ⟨by rfl, rfl⟩) (hS) ?_
      try simp only [nrm]
      refine WpT.take (i := 14) rfl (by kernel_rfl) (fun _ _ _ h => h) (.inr ⟨by rfl, rfl⟩) (hS) ?_
      try simp only [nrm]
      refine WpT.take (i := 15) rfl (by kernel_rfl) (fun _ _ _ h => h) (.inr ⟨by rfl, rfl⟩) (hS) ?_
      try simp only [nrm]
      refine WpT.take (i := 16) rfl (by kernel_rfl) (fun _ _ _ h => h) (.inr ⟨by rfl, rfl⟩) (hS) ?_
      try simp only [nrm]
      refine WpT.take (i := 17) rfl (by kernel_rfl) (fun _ _ _ h => h) (.inl ⟨by rfl, fun w hSw => by clear hSw; go_simp; (try go_bits); (try rw [if_pos (by omega)]); (try with_reducible rfl)⟩) (hS) ?_
      try simp only [nrm]
      refine WpT.tail (i := 18) rfl (by kernel_rfl) (by kernel_rfl) (fun K hK => ?_)
      go_simp; (try go_bits)
      refine hK _ _ ?_; clear hK K; try simp only [nrm]
      refine WpT.done (by kernel_rfl) ?_ _
      go_wp2_with fail; go_ret; exact ⟨rfl, bstep hb0 hS⟩
  · have hf : formedB s n = false := by simp [formedB, h0]
    rw [hf]
    have g0 : decide (0 ≤ s) = false := by simp [h0]
    go_enter Tryd.func54, Tryd.ntmps54
    go_upto_region 1 with (fail)
    change Code.wp _ _ _ _ (w.alloc (.cells (pkC s A n c) 51))
    rw [← HWA.out]
    refine wp_region_T 18 (by kernel_rfl) ?_
    refine WpT.take (i := 0) rfl (by kernel_rfl) (fun _ _ _ h => h) (.inl ⟨by rfl, fun w hSw => by clear hSw; go_simp; (try go_bits); (try rw [if_pos (by omega)]); (try with_reducible rfl)⟩) (hS) ?_
    try simp only [nrm]
    refine WpT.take (i := 1) rfl (by kernel_rfl) (fun _ _ _ h => h) (yields_load rfl rfl rfl (by kernel_rfl) c0) (hS) ?_
    try simp only [nrm]
    refine WpT.take (i := 2) rfl (by kernel_rfl) (fun _ _ _ h => h) (.inl ⟨by rfl, fun w hSw => by clear hSw; go_simp; (try go_bits); (try rw [if_pos (by omega)]); (try with_reducible rfl)⟩) (hS) ?_
    try simp only [nrm]
    refine WpT.take (i := 3) rfl (by kernel_rfl) (fun _ _ _ h => h) (.inl ⟨by rfl, fun w hSw => by clear hSw; go_simp; (try go_bits); (try rw [if_pos (by omega)]); (try with_reducible rfl)⟩) (hS) ?_
    try simp only [nrm]
    refine WpT.take (i := 4) rfl (by kernel_rfl) (fun _ _ _ h => h) (.inr ⟨by rfl, rfl⟩) (hS) ?_
    try simp only [nrm]
    refine WpT.take (i := 5) rfl (by kernel_rfl) (fun _ _ _ h => h) (.inr ⟨by rfl, rfl⟩) (hS) ?_
    try simp only [nrm]
    refine WpT.take (i := 6) rfl (by kernel_rfl) (fun _ _ _ h => h) (.inr ⟨by rfl, rfl⟩) (hS) ?_
    try simp only [nrm]
    refine WpT.take (i := 7) rfl (by kernel_rfl) (fun _ _ _ h => h) (.inl ⟨by rfl, fun w hSw => by clear hSw; go_simp; (try go_bits); (try rw [if_pos (by omega)]); (try with_reducible rfl)⟩) (hS) ?_
    try simp only [nrm]
    refine WpT.take (i := 8) rfl (by kernel_rfl) (fun _ _ _ h => h) (.inl ⟨by rfl, fun w hSw => by clear hSw; go_simp; (try go_bits); (try rw [if_pos (by omega)]); (try with_reducible rfl)⟩) (hS) ?_
    try simp only [nrm]
    refine WpT.take (i := 9) rfl (by kernel_rfl) (fun _ _ _ h => h) (.inr ⟨by rfl, rfl⟩) (hS) ?_
    try simp only [nrm]
    refine WpT.take (i := 10) rfl (by kernel_rfl) (fun _ _ _ h => h) (.inr ⟨by rfl, rfl⟩) (hS) ?_
    try simp only [nrm]
    refine WpT.take (i := 11) rfl (by kernel_rfl) (fun _ _ _ h => h) (.inr ⟨by rfl, rfl⟩) (hS) ?_
    try simp only [nrm]
    refine WpT.take (i := 12) rfl (by kernel_rfl) (fun _ _ _ h => h) (.inr ⟨by rfl, rfl⟩) (hS) ?_
    try simp only [nrm]
    refine WpT.take (i := 13) rfl (by kernel_rfl) (fun _ _ _ h => h) (.inr ⟨by rfl, rfl⟩) (hS) ?_
    try simp only [nrm]
    refine WpT.take (i := 14) rfl (by kernel_rfl) (fun _ _ _ h => h) (.inr ⟨by rfl, rfl⟩) (hS) ?_
    try simp only [nrm]
    refine WpT.take (i := 15) rfl (by kernel_rfl) (fun _ _ _ h => h) (.inr ⟨by rfl, rfl⟩) (hS) ?_
    try simp only [nrm]
    refine WpT.take (i := 16) rfl (by kernel_rfl) (fun _ _ _ h => h) (.inr ⟨by rfl, rfl⟩) (hS) ?_
    try simp only [nrm]
    refine WpT.take (i := 17) rfl (by kernel_rfl) (fun _ _ _ h => h) (.inl ⟨by rfl, fun w hSw => by clear hSw; go_simp; (try go_bits); (try rw [if_pos (by omega)]); (try with_reducible rfl)⟩) (hS) ?_
    try simp only [nrm]
    refine WpT.tail (i := 18) rfl (by kernel_rfl) (by kernel_rfl) (fun K hK => ?_)
    go_simp; (try go_bits)
    refine hK _ _ ?_; clear hK K; try simp only [nrm]
    refine WpT.done (by kernel_rfl) ?_ _
    go_wp2_with fail; go_ret; exact ⟨rfl, bstep hb0 hS⟩
end Go.Proofs.YtgggpnjnhhkmgaaDoor
namespace Go.Proofs.YtgggpnjnhhkmgaaDoor
set_option linter.unusedSimpArgs false
set_option linter.unusedVariables false
open Go.RowKit Exch
set_option maxRecDepth 20000 in
set_option maxHeartbeats 1000000 in
theorem refSplit_any (n : Nat) (w : World) (h : 2 ≤ n) (h2 : n ≤ 1099511627776) : Calls Tryd.prog 40 #[.int .i64 n] w fun e w' => e = .returned (.int .i64 (Merk.split n : Nat)) ∧ w' = w := by
  have HU := Lib.hid (fun (k j : Nat) (e : k = 2 ^ j) (h1 : k < n) (h2 : n ≤ 2 * k) => (by rw [e] at h1 h2 ⊢; exact Merk.split_is h1 h2 : Merk.split n = k))
  generalize Merk.split n = R at *
  go_enter Tryd.func40, Tryd.ntmps40
  go_wp2
  go_loop [3] (fun v => ∃ k j : Nat, v = .int .i64 k ∧ Hid (k = 2 ^ j) ∧ 1 ≤ k ∧ k < n) (fun v => n - (intOf v).toNat)
  case atStart => exact ⟨1, 0, rfl, Lib.hid rfl, by omega, by omega⟩
  case round =>
    obtain ⟨k, j, rfl, hj, h1, hk⟩ := hrel
    have hkb : k ≤ 1099511627776 := by omega
    by_cases hlt : 2 * k < n
    · have hlt2 : 2 * (k : Int) < (n : Int) := by omega
      go_wp2
      exact ⟨⟨2 * k, j + 1, by go_num, Lib.hid (by have := hj.out; rw [Nat.pow_succ]; omega), by omega, hlt⟩, by simp [intOf]; omega⟩
    · have hlt2 : ¬ 2 * (k : Int) < (n : Int) := by omega
      have e := HU.out k j hj.out hk (by omega)
      go_wp2
      go_ret
      exact ⟨rfl, rfl⟩
theorem dgs_take (l : List Nat) (k : Nat) (h : k ≤ l.length) : (dgsL l).take (k * 16) = dgsL (l.take k) := fl_take bv_dg_len l k h
theorem dgs_drop (l : List Nat) (k : Nat) (h : k ≤ l.length) : (dgsL l).drop (k * 16) = dgsL (l.drop k) := fl_drop bv_dg_len l k h
theorem RdD.take {W : World} {A : Option Addr} {n : Nat} {l : List Nat} (h : RdD W A n l) {k : Nat} (hk : k ≤ n) : RdD W A k (l.take k) := by
  have hl := h.len
  refine ⟨by rw [List.length_take]; omega, ?_⟩
  have := h.rd.take (k := k * 16) (by omega)
  rwa [dgs_take l k (by omega)] at this
theorem RdD.drop {W : World} {A : Option Addr} {n c : Nat} {l : List Nat} (h : RdD W A n l) {k : Nat} (hk : k ≤ n) (hc : n ≤ c) : RdD W (if c = k then A else A.map (·.add (k * 16))) (n - k) (l.drop k) := by
  have hl := h.len
  refine ⟨by rw [List.length_drop]; omega, ?_⟩
  have h2 := h.rd.cut (cap := c * 16) (k := k * 16) (by omega) (by omega)
  have e : (c * 16 = k * 16) ↔ (c = k) := by omega
  simp only [e] at h2
  rw [← Nat.sub_mul, dgs_drop l k (by omega)] at h2
  exact h2
/-- What a root's walk leaves. -/
def DgIs (x : Nat) (w : World) (e : Ending) (w' : World) : Prop := e = .returned (dgV x) ∧ Below w.heap.size w w'
set_option maxRecDepth 20000 in
set_option maxHeartbeats 1000000 in
theorem root_any {nd : Nat → Nat → Nat} {em : Nat} (N : Nds nd em) (K : Nat) : ∀ (l : List Nat) (A : Option Addr) (n c : Nat) (w : World), n ≤ K → n ≤ 1000000 → RdD w A n l → n ≤ c → c ≤ maxLen → GCon w →
    Calls Tryd.prog 15 #[.slice A n c] w (DgIs (Merk.root nd em l) w) := by
  induction K with
  | zero =>
    intro l A n c w hK hn hr hnc hcm hg
    obtain rfl : n = 0 := by omega
    obtain rfl := List.eq_nil_of_length_eq_zero hr.len
    rw [Merk.root_nil]
    have HE := Lib.hid N.empty
    have HG := Lib.hid hg
    clear hg hr
    unfold DgIs
    go_enter Tryd.func15, Tryd.ntmps15
    go_upto_region 1 with ((with_reducible show wpList _ _ _ _ _ _); refine wpList_new (cs := dgC 0) rfl rfl zeroDg ?_; intro w0 g0 hg0 q0 hb0 lt0; have HG0 := Lib.hid hg0; clear hg0)
    go_wp2_with fail
    refine (HE.out _ (HG.out.below hb0)).mono ?_
    rintro e w2 ⟨rfl, hb2⟩
    have q2 := q0.below hb2
    go_wp2_with ((with_reducible show wpList _ _ _ _ _ _); refine wpList_put (vs := dgC em) rfl rfl rfl rfl q2 (by rw [dgC_size, dgC_size]) (by rw [sizeDg, dgC_size]) (one_dgC _) ?_; intro w9 ht9 b9)
    exact ret_blk rfl rfl rfl b9 aggDg (by rw [sizeDg, dgC_size]) ⟨rfl, (bstep hb0 hb2).trans (ht9.below _ (by have := HG0.out; omega))⟩
  | succ K ih =>
    intro l A n c w hK hn hr hnc hcm hg
    by_cases h0 : n = 0
    · exact ih l A n c w (by omega) hn hr hnc hcm hg
    by_cases h1 : n = 1
    · subst h1
      match l, hr.len with
      | [x], _ =>
      rw [Merk.root_one]
      obtain ⟨ad, rfl, _⟩ := hr.elem (i := 0) (by simp)
      have HR := Lib.hid hr
      clear hr hg
      unfold DgIs
      go_enter Tryd.func15, Tryd.ntmps15
      go_upto_region 1 with ((with_reducible show wpList _ _ _ _ _ _); refine wpList_new (cs := dgC 0) rfl rfl zeroDg ?_; intro w0 g0 hg0 q0 hb0 lt0; have HG0 := Lib.hid hg0; clear hg0)
      obtain ⟨ad2, e2, hc⟩ := (HR.out.below hb0).elem (i := 0) (by simp)
      obtain rfl := Option.some.inj e2
      rw [Nat.zero_mul] at hc
      simp only [List.getElem_cons_zero] at hc
      clear e2
      go_wp2_with (first
        | ((with_reducible show wpList _ _ _ _ _ _); refine wpList_loadK (us := bv (dg x)) rfl rfl rfl aggDg (by rw [sizeDg, bv_dg_len]) hc ?_)
        | ((with_reducible show wpList _ _ _ _ _ _); refine wpList_put (vs := dgC x) rfl rfl rfl rfl q0 (by rw [dgC_size, dgC_size]) (by rw [sizeDg, dgC_size]) (one_dgC _) ?_; intro w9 ht9 b9))
      exact ret_blk rfl rfl rfl b9 aggDg (by rw [sizeDg, dgC_size]) ⟨rfl, hb0.trans (ht9.below _ (by have := HG0.out; omega))⟩
    · have hk1 := Merk.split_lt (n := n) (by omega)
      have hk0 := Merk.split_pos n
      have hl := hr.len
      have HS := Lib.hid (fun W => split_any n W (by omega) (by omega))
      have hx : Merk.root nd em l = nd (Merk.root nd em (l.take (Merk.split n))) (Merk.root nd em (l.drop (Merk.split n))) := by rw [Merk.root_two nd em (by omega), hl]
      rw [hx]
      have HT := Lib.hid (fun (W : World) (hb : Below w.heap.size w W) => ih (l.take (Merk.split n)) A (Merk.split n) (Merk.split n) W (by omega) (by omega) ((hr.below hb).take (by omega)) (Nat.le_refl _) (by omega) (hg.below hb))
      have HD := Lib.hid (fun (W : World) (hb : Below w.heap.size w W) => ih (l.drop (Merk.split n)) (if n = Merk.split n then A else A.map (·.add (Merk.split n * 16))) (n - Merk.split n) (n - Merk.split n) W (by omega) (by omega) ((hr.below hb).drop (by omega) (Nat.le_refl _)) (Nat.le_refl _) (by omega) (hg.below hb))
      have HN := Lib.hid (N.node (Merk.root nd em (l.take (Merk.split n))) (Merk.root nd em (l.drop (Merk.split n))))
      have HG := Lib.hid hg
      have hcm2 : c ≤ 9223372036854775807 := hcm
      clear hx hr hg hl ih hcm
      generalize Merk.root nd em (l.take (Merk.split n)) = X at *
      generalize Merk.root nd em (l.drop (Merk.split n)) = Y at *
      generalize Merk.split n = k at *
      generalize nd X Y = Z at *
      unfold DgIs at HT HD ⊢
      have e0 : ((n : Int) == 0) = false := by simp; omega
      have e1 : ((n : Int) == 1) = false := by simp; omega
      go_enter Tryd.func15, Tryd.ntmps15
      go_upto_region 4 with (first
        | ((with_reducible show wpList _ _ _ _ _ _); refine wpList_new (cs := dgC 0) rfl rfl zeroDg ?_; intro w0 g0 hg0 q0 hb0 lt0; have HG0 := Lib.hid hg0; clear hg0)
        | (go_at_call 33; refine (HS.out _).mono ?_; rintro e w1 ⟨rfl, rfl⟩))
      have hS : Below w1.heap.size w1 w1.drew := (Below.refl _ _).drew
      refine wp_region_T 12 (by kernel_rfl) ?_
      refine WpT.take (i := 0) rfl (by kernel_rfl) (fun _ _ _ h => h) (.inl ⟨by rfl, fun w hSw => by clear hSw; go_simp; (try go_bits); (try rw [if_pos (by omega)]); (try with_reducible rfl)⟩) (hS) ?_
      try simp only [nrm]
      refine WpT.take (i := 1) rfl (by kernel_rfl) (fun _ _ _ h => h) (.inl ⟨by rfl, fun w hSw => by clear hSw; go_simp; (try go_bits); (try rw [if_pos (by omega)]); (try with_reducible rfl)⟩) (hS) ?_
      try simp only [nrm]
      refine WpT.take (i := 2) rfl (by kernel_rfl) (fun _ _ _ h => h) (.inl ⟨by rfl, fun w hSw => by clear hSw; go_simp; (try go_bits); (try rw [if_pos (by omega)]); (try with_reducible rfl)⟩) (hS) ?_
      try simp only [nrm]
      refine WpT.take (i := 3) rfl (by kernel_rfl) (fun _ _ _ h => h) (.inl ⟨by rfl, fun w hSw => by clear hSw; go_simp; (try go_bits); (try rw [if_pos (by omega)]); (try with_reducible rfl)⟩) (hS) ?_
      try simp only [nrm]
      refine WpT.take (i := 5) rfl (by kernel_rfl) (fun _ _ _ h => h) (.inl ⟨by rfl, fun w hSw => by clear hSw; go_simp; (try go_bits); (try rw [if_pos (by omega)]); (try with_reducible rfl)⟩) (hS) ?_
      try simp only [nrm]
      refine WpT.take (i := 6) rfl (by kernel_rfl) (fun _ _ _ h => h) (.inl ⟨by rfl, fun w hSw => by clear hSw; go_simp; (try go_bits); (try rw [if_pos (by omega)]); (try with_reducible rfl)⟩) (hS) ?_
      try simp only [nrm]
      refine WpT.take (i := 7) rfl (by kernel_rfl) (fun _ _ _ h => h) (.inl ⟨by rfl, fun w hSw => by clear hSw; go_simp; (try go_bits); (try rw [if_pos (by omega)]); (try with_reducible rfl)⟩) (hS) ?_
      try simp only [nrm]
      refine WpT.take (i := 8) rfl (by kernel_rfl) (fun _ _ _ h => h) (.inl ⟨by rfl, fun w hSw => by clear hSw; go_simp; (try go_bits); (try rw [if_pos (by omega)]); (try with_reducible rfl)⟩) (hS) ?_
      try simp only [nrm]
      refine WpT.take (i := 9) rfl (by kernel_rfl) (fun _ _ _ h => h) (.inl ⟨by rfl, fun w hSw => by clear hSw; go_simp; (try go_bits); (try rw [if_pos (by omega)]); (try with_reducible rfl)⟩) (hS) ?_
      try simp only [nrm]
      refine WpT.one (i := 4) rfl (by kernel_rfl) (fun K hK => ?_)
      go_simp; refine (HT.out _ (bstep hb0 hS)).mono ?_; rintro e w5 ⟨rfl, hb5⟩; replace hS := bstep hS hb5
      refine hK _ _ (hS) ?_; clear hK K; try simp only [nrm]
      refine WpT.one (i := 10) rfl (by kernel_rfl) (fun K hK => ?_)
      go_simp; refine (HD.out _ (bstep hb0 hS)).mono ?_; rintro e w6 ⟨rfl, hb6⟩; replace hS := bstep hS hb6
      refine hK _ _ (hS) ?_; clear hK K; try simp only [nrm]
      refine WpT.one (i := 11) rfl (by kernel_rfl) (fun K hK => ?_)
      go_simp; refine (HN.out _ (HG.out.below (bstep hb0 hS))).mono ?_; rintro e w7 ⟨rfl, hb7⟩; replace hS := bstep hS hb7; have q5 := q0.below hS
      refine hK _ _ (hS) ?_; clear hK K; try simp only [nrm]
      refine WpT.tail (i := 12) rfl (by kernel_rfl) (by kernel_rfl) (fun K hK => ?_)
      refine (if_pos (by rfl)).mpr ?_; refine wp_put (vs := dgC Z) rfl rfl rfl q5 (by rw [dgC_size, dgC_size]) (by rw [sizeDg, dgC_size]) (one_dgC _) ?_; intro w9 ht9 b9
      refine hK _ _ ?_; clear hK K; try simp only [nrm]
      refine WpT.done (by kernel_rfl) ?_ _
      go_wp2_with fail; exact ret_blk rfl rfl rfl b9 aggDg (by rw [sizeDg, dgC_size]) ⟨rfl, (bstep hb0 hS).trans (ht9.below _ (by have := HG0.out; omega))⟩
set_option maxRecDepth 20000 in
set_option maxHeartbeats 1000000 in
theorem refRoot_any {nd : Nat → Nat → Nat} {em : Nat} (N : Nds nd em) (K : Nat) : ∀ (l : List Nat) (A : Option Addr) (n c : Nat) (w : World), n ≤ K → n ≤ 1000000 → RdD w A n l → n ≤ c → c ≤ maxLen → RCon w →
    Calls Tryd.prog 16 #[.slice A n c] w (DgIs (Merk.root nd em l) w) := by
  induction K with
  | zero =>
    intro l A n c w hK hn hr hnc hcm hg
    obtain rfl : n = 0 := by omega
    obtain rfl := List.eq_nil_of_length_eq_zero hr.len
    rw [Merk.root_nil]
    have HE := Lib.hid N.refEmpty
    have HG := Lib.hid hg
    clear hg hr
    unfold DgIs
    go_enter Tryd.func16, Tryd.ntmps16
    go_upto_region 1 with ((with_reducible show wpList _ _ _ _ _ _); refine wpList_new (cs := dgC 0) rfl rfl zeroDg ?_; intro w0 g0 hg0 q0 hb0 lt0; have HG0 := Lib.hid hg0; clear hg0)
    go_wp2_with fail
    refine (HE.out _ (HG.out.below hb0)).mono ?_
    rintro e w2 ⟨rfl, hb2⟩
    have q2 := q0.below hb2
    go_wp2_with ((with_reducible show wpList _ _ _ _ _ _); refine wpList_put (vs := dgC em) rfl rfl rfl rfl q2 (by rw [dgC_size, dgC_size]) (by rw [sizeDg, dgC_size]) (one_dgC _) ?_; intro w9 ht9 b9)
    exact ret_blk rfl rfl rfl b9 aggDg (by rw [sizeDg, dgC_size]) ⟨rfl, (bstep hb0 hb2).trans (ht9.below _ (by have := HG0.out; omega))⟩
  | succ K ih =>
    intro l A n c w hK hn hr hnc hcm hg
    by_cases h0 : n = 0
    · exact ih l A n c w (by omega) hn hr hnc hcm hg
    by_cases h1 : n = 1
    · subst h1
      match l, hr.len with
      | [x], _ =>
      rw [Merk.root_one]
      obtain ⟨ad, rfl, _⟩ := hr.elem (i := 0) (by simp)
      have HR := Lib.hid hr
      clear hr hg
      unfold DgIs
      go_enter Tryd.func16, Tryd.ntmps16
      go_upto_region 1 with ((with_reducible show wpList _ _ _ _ _ _); refine wpList_new (cs := dgC 0) rfl rfl zeroDg ?_; intro w0 g0 hg0 q0 hb0 lt0; have HG0 := Lib.hid hg0; clear hg0)
      obtain ⟨ad2, e2, hc⟩ := (HR.out.below hb0).elem (i := 0) (by simp)
      obtain rfl := Option.some.inj e2
      rw [Nat.zero_mul] at hc
      simp only [List.getElem_cons_zero] at hc
      clear e2
      go_wp2_with (first
        | ((with_reducible show wpList _ _ _ _ _ _); refine wpList_loadK (us := bv (dg x)) rfl rfl rfl aggDg (by rw [sizeDg, bv_dg_len]) hc ?_)
        | ((with_reducible show wpList _ _ _ _ _ _); refine wpList_put (vs := dgC x) rfl rfl rfl rfl q0 (by rw [dgC_size, dgC_size]) (by rw [sizeDg, dgC_size]) (one_dgC _) ?_; intro w9 ht9 b9))
      exact ret_blk rfl rfl rfl b9 aggDg (by rw [sizeDg, dgC_size]) ⟨rfl, hb0.trans (ht9.below _ (by have := HG0.out; omega))⟩
    · have hk1 := Merk.split_lt (n := n) (by omega)
      have hk0 := Merk.split_pos n
      have hl := hr.len
      have HS := Lib.hid (fun W => refSplit_any n W (by omega) (by omega))
      have hx : Merk.root nd em l = nd (Merk.root nd em (l.take (Merk.split n))) (Merk.root nd em (l.drop (Merk.split n))) := by rw [Merk.root_two nd em (by omega), hl]
      rw [hx]
      have HT := Lib.hid (fun (W : World) (hb : Below w.heap.size w W) => ih (l.take (Merk.split n)) A (Merk.split n) c W (by omega) (by omega) ((hr.below hb).take (by omega)) (by omega) hcm (hg.below hb))
      have HD := Lib.hid (fun (W : World) (hb : Below w.heap.size w W) => ih (l.drop (Merk.split n)) (if c = Merk.split n then A else A.map (·.add (Merk.split n * 16))) (n - Merk.split n) (c - Merk.split n) W (by omega) (by omega) ((hr.below hb).drop (by omega) hnc) (by omega) (by omega) (hg.below hb))
      have HN := Lib.hid (N.refNode (Merk.root nd em (l.take (Merk.split n))) (Merk.root nd em (l.drop (Merk.split n))))
      have HG := Lib.hid hg
      have hcm2 : c ≤ 9223372036854775807 := hcm
      clear hx hr hg hl ih hcm
      generalize Merk.root nd em (l.take (Merk.split n)) = X at *
      generalize Merk.root nd em (l.drop (Merk.split n)) = Y at *
      generalize Merk.split n = k at *
      generalize nd X Y = Z at *
      unfold DgIs at HT HD ⊢
      have e0 : ((n : Int) == 0) = false := by simp; omega
      have e1 : ((n : Int) == 1) = false := by simp; omega
      go_enter Tryd.func16, Tryd.ntmps16
      go_upto_region 6 with (first
        | ((with_reducible show wpList _ _ _ _ _ _); refine wpList_new (cs := dgC 0) rfl rfl zeroDg ?_; intro w0 g0 hg0 q0 hb0 lt0; have HG0 := Lib.hid hg0; clear hg0)
        | (go_at_call 40; refine (HS.out _).mono ?_; rintro e w1 ⟨rfl, rfl⟩))
      have hS : Below w1.heap.size w1 w1.drew := (Below.refl _ _).drew
      refine wp_region_T 9 (by kernel_rfl) ?_
      refine WpT.take (i := 0) rfl (by kernel_rfl) (fun _ _ _ h => h) (.inl ⟨by rfl, fun w hSw => by clear hSw; go_simp; (try go_bits); (try rw [if_pos (by omega)]); (try with_reducible rfl)⟩) (hS) ?_
      try simp only [nrm]
      refine WpT.take (i := 1) rfl (by kernel_rfl) (fun _ _ _ h => h) (.inl ⟨by rfl, fun w hSw => by clear hSw; go_simp; (try go_bits); (try rw [if_pos (by omega)]); (try with_reducible rfl)⟩) (hS) ?_
      try simp only [nrm]
      refine WpT.take (i := 2) rfl (by kernel_rfl) (fun _ _ _ h => h) (.inl ⟨by rfl, fun w hSw => by clear hSw; go_simp; (try go_bits); (try rw [if_pos (by omega)]); (try with_reducible rfl)⟩) (hS) ?_
      try simp only [nrm]
      refine WpT.take (i := 4) rfl (by kernel_rfl) (fun _ _ _ h => h) (.inl ⟨by rfl, fun w hSw => by clear hSw; go_simp; (try go_bits); (try rw [if_pos (by omega)]); (try with_reducible rfl)⟩) (hS) ?_
      try simp only [nrm]
      refine WpT.take (i := 5) rfl (by kernel_rfl) (fun _ _ _ h => h) (.inl ⟨by rfl, fun w hSw => by clear hSw; go_simp; (try go_bits); (try rw [if_pos (by omega)]); (try with_reducible rfl)⟩) (hS) ?_
      try simp only [nrm]
      refine WpT.take (i := 6) rfl (by kernel_rfl) (fun _ _ _ h => h) (.inl ⟨by rfl, fun w hSw => by clear hSw; go_simp; (try go_bits); (try rw [if_pos (by omega)]); (try with_reducible rfl)⟩) (hS) ?_
      try simp only [nrm]
      refine WpT.one (i := 3) rfl (by kernel_rfl) (fun K hK => ?_)
      go_simp; refine (HT.out _ (bstep hb0 hS)).mono ?_; rintro e w5 ⟨rfl, hb5⟩; replace hS := bstep hS hb5
      refine hK _ _ (hS) ?_; clear hK K; try simp only [nrm]
      refine WpT.one (i := 7) rfl (by kernel_rfl) (fun K hK => ?_)
      go_simp; refine (HD.out _ (bstep hb0 hS)).mono ?_; rintro e w6 ⟨rfl, hb6⟩; replace hS := bstep hS hb6
      refine hK _ _ (hS) ?_; clear hK K; try simp only [nrm]
      refine WpT.one (i := 8) rfl (by kernel_rfl) (fun K hK => ?_)
      go_simp; refine (HN.out _ (HG.out.below (bstep hb0 hS))).mono ?_; rintro e w7 ⟨rfl, hb7⟩; replace hS := bstep hS hb7; have q5 := q0.below hS
      refine hK _ _ (hS) ?_; clear hK K; try simp only [nrm]
      refine WpT.tail (i := 9) rfl (by kernel_rfl) (by kernel_rfl) (fun K hK => ?_)
      refine (if_pos (by rfl)).mpr ?_; refine wp_put (vs := dgC Z) rfl rfl rfl q5 (by rw [dgC_size, dgC_size]) (by rw [sizeDg, dgC_size]) (one_dgC _) ?_; intro w9 ht9 b9
      refine hK _ _ ?_; clear hK K; try simp only [nrm]
      refine WpT.done (by kernel_rfl) ?_ _
      go_wp2_with fail; exact ret_blk rfl rfl rfl b9 aggDg (by rw [sizeDg, dgC_size]) ⟨rfl, (bstep hb0 hS).trans (ht9.below _ (by have := HG0.out; omega))⟩
end Go.Proofs.YtgggpnjnhhkmgaaDoor
namespace Go.Proofs.YtgggpnjnhhkmgaaDoor
set_option linter.unusedSimpArgs false
set_option linter.unusedVariables false
open Go.RowKit Exch
theorem drop_ne {α} [DecidableEq α] {a b : List α} {k : Nat} (ha : k < a.length) (hb : k < b.length) (h : a[k] ≠ b[k]) : decide (a = b) = false := by
  rw [decide_eq_false_iff_not]
  intro e
  subst e
  exact h rfl
set_option maxRecDepth 20000 in
set_option maxHeartbeats 1000000 in
theorem same_any (a b : List Nat) (A : Option Addr) (n c : Nat) (B : Option Addr) (m d : Nat) (w : World) (ha : RdD w A n a) (hb : RdD w B m b) (hn : n ≤ 1000000) (hm : m ≤ 1000000) (wa : ∀ x ∈ a, x < 2 ^ 128) (wb : ∀ x ∈ b, x < 2 ^ 128) :
    Calls Tryd.prog 17 #[.slice A n c, .slice B m d] w fun e w' => e = .returned (.bool (decide (a = b))) ∧ Below w.heap.size w w' := by
  have HA := Lib.hid ha
  have HB := Lib.hid hb
  have HLA := Lib.hid ha.len
  have HLB := Lib.hid hb.len
  have WA := Lib.hid wa
  have WB := Lib.hid wb
  clear wa wb
  by_cases hnm : n = m
  · subst hnm
    have HX := Lib.hid (fun (h : ∀ j (hj : j < a.length) (hj2 : j < b.length), a[j] = b[j]) => (show decide (a = b) = true by
      rw [decide_eq_true_eq]; exact List.ext_getElem (by rw [ha.len, hb.len]) (fun i h1 h2 => h i h1 h2)))
    have HY := Lib.hid (fun k (h1 : k < a.length) (h2 : k < b.length) (h : a[k] ≠ b[k]) => drop_ne h1 h2 h)
    generalize decide (a = b) = V at *
    clear ha hb
    have dn : ((n : Int) != n) = false := by simp
    go_enter Tryd.func17, Tryd.ntmps17
    go_wp2_with fail
    go_loopw [5] (fun vk wr => ∃ k : Nat, k ≤ n ∧ vk = .int .i64 k ∧ Below w.heap.size w wr ∧ Hid (∀ j (hj : j < a.length) (hj2 : j < b.length), j < k → a[j] = b[j])) (fun vk _ => n - (intOf vk).toNat)
    case atStart => exact ⟨0, Nat.zero_le _, rfl, Below.refl _ _, Lib.hid (fun j hj hj2 h => by omega)⟩
    case round =>
      obtain ⟨k, hk, rfl, hbw, HV⟩ := hrel
      by_cases hlt : k < n
      · have hka : k < a.length := by have := HLA.out; omega
        have hkb : k < b.length := by have := HLB.out; omega
        obtain ⟨ad, rfl, hca⟩ := (HA.out.below hbw).elem hka
        obtain ⟨bd, rfl, hcb⟩ := (HB.out.below hbw).elem hkb
        have hne := neq_Dg (WA.out _ (List.getElem_mem hka)) (WB.out _ (List.getElem_mem hkb))
        have HN : Hid (a[k] = b[k] → ∀ j (hj : j < a.length) (hj2 : j < b.length), j < k + 1 → a[j] = b[j]) := Lib.hid (fun h j hj hj2 hjk => by
          by_cases e : j = k
          · subst e; exact h
          · exact HV.out j hj hj2 (by omega))
        have HM := Lib.hid (HY.out k hka hkb)
        generalize a[k] = x at *
        generalize b[k] = y at *
        go_upto_region 6 with fail
        by_cases hxy : x = y
        · have dx : decide (x = y) = true := by simpa using hxy
          rw [dx] at hne
          have HN2 := Lib.hid (HN.out hxy)
          clear HN HM HV dx hxy
          refine wp_region_T 9 (by kernel_rfl) ?_
          refine WpT.take (i := 0) rfl (by kernel_rfl) (fun _ _ _ h => h) (.inl ⟨by rfl, fun w hSw => by clear hSw; go_simp; (try go_bits); (try rw [if_pos (by omega)]); (try with_reducible rfl)⟩) ((Below.refl _ _).drew) ?_
          try simp only [nrm]
          refine WpT.take (i := 1) rfl (by kernel_rfl) (fun _ _ _ h => h) (.inl ⟨by rfl, fun w hSw => by clear hSw; go_simp; (try go_bits); (try rw [if_pos (by omega)]); (try with_reducible rfl)⟩) ((Below.refl _ _).drew) ?_
          try simp only [nrm]
          refine WpT.take (i := 2) rfl (by kernel_rfl) (fun _ _ _ h => h) (.inl ⟨by rfl, fun w hSw => by clear hSw; go_simp; (try go_bits); (try rw [if_pos (by omega)]); (try with_reducible rfl)⟩) ((Below.refl _ _).drew) ?_
          try simp only [nrm]
          refine WpT.take (i := 3) rfl (by kernel_rfl) (fun _ _ _ h => h) (yields_loadK (us := bv (dg x)) rfl rfl rfl aggDg (by rw [sizeDg, bv_dg_len]) hca) ((Below.refl _ _).drew) ?_
          try simp only [nrm]
          refine WpT.take (i := 4) rfl (by kernel_rfl) (fun _ _ _ h => h) (.inl ⟨by rfl, fun w hSw => by clear hSw; go_simp; (try go_bits); (try rw [if_pos (by omega)]); (try with_reducible rfl)⟩) ((Below.refl _ _).drew) ?_
          try simp only [nrm]
          refine WpT.take (i := 5) rfl (by kernel_rfl) (fun _ _ _ h => h) (.inl ⟨by rfl, fun w hSw => by clear hSw; go_simp; (try go_bits); (try rw [if_pos (by omega)]); (try with_reducible rfl)⟩) ((Below.refl _ _).drew) ?_
          try simp only [nrm]
          refine WpT.take (i := 6) rfl (by kernel_rfl) (fun _ _ _ h => h) (.inl ⟨by rfl, fun w hSw => by clear hSw; go_simp; (try go_bits); (try rw [if_pos (by omega)]); (try with_reducible rfl)⟩) ((Below.refl _ _).drew) ?_
          try simp only [nrm]
          refine WpT.take (i := 7) rfl (by kernel_rfl) (fun _ _ _ h => h) (yields_loadK (us := bv (dg y)) rfl rfl rfl aggDg (by rw [sizeDg, bv_dg_len]) hcb) ((Below.refl _ _).drew) ?_
          try simp only [nrm]
          refine WpT.take (i := 8) rfl (by kernel_rfl) (fun _ _ _ h => h) (.inl ⟨by rfl, fun w hSw => by clear hSw; go_simp; (try go_bits); (try rw [if_pos (by omega)]); (try with_reducible rfl)⟩) ((Below.refl _ _).drew) ?_
          try simp only [nrm]
          refine WpT.done (by kernel_rfl) ?_ _
          go_wp2_with fail
          exact ⟨⟨k + 1, by omega, by go_num, hbw.drew, HN2⟩, by simp [intOf]; omega⟩
        · have dx : decide (x = y) = false := by simpa using hxy
          rw [dx] at hne
          have hV := HM.out hxy
          subst hV
          clear HN HM HV dx hxy HX HY
          refine wp_region_T 9 (by kernel_rfl) ?_
          refine WpT.take (i := 0) rfl (by kernel_rfl) (fun _ _ _ h => h) (.inl ⟨by rfl, fun w hSw => by clear hSw; go_simp; (try go_bits); (try rw [if_pos (by omega)]); (try with_reducible rfl)⟩) ((Below.refl _ _).drew) ?_
          try simp only [nrm]
          refine WpT.take (i := 1) rfl (by kernel_rfl) (fun _ _ _ h => h) (.inl ⟨by rfl, fun w hSw => by clear hSw; go_simp; (try go_bits); (try rw [if_pos (by omega)]); (try with_reducible rfl)⟩) ((Below.refl _ _).drew) ?_
          try simp only [nrm]
          refine WpT.take (i := 2) rfl (by kernel_rfl) (fun _ _ _ h => h) (.inl ⟨by rfl, fun w hSw => by clear hSw; go_simp; (try go_bits); (try rw [if_pos (by omega)]); (try with_reducible rfl)⟩) ((Below.refl _ _).drew) ?_
          try simp only [nrm]
          refine WpT.take (i := 3) rfl (by kernel_rfl) (fun _ _ _ h => h) (yields_loadK (us := bv (dg x)) rfl rfl rfl aggDg (by rw [sizeDg, bv_dg_len]) hca) ((Below.refl _ _).drew) ?_
          try simp only [nrm]
          refine WpT.take (i := 4) rfl (by kernel_rfl) (fun _ _ _ h => h) (.inl ⟨by rfl, fun w hSw => by clear hSw; go_simp; (try go_bits); (try rw [if_pos (by omega)]); (try with_reducible rfl)⟩) ((Below.refl _ _).drew) ?_
          try simp only [nrm]
          refine WpT.take (i := 5) rfl (by kernel_rfl) (fun _ _ _ h => h) (.inl ⟨by rfl, fun w hSw => by clear hSw; go_simp; (try go_bits); (try rw [if_pos (by omega)]); (try with_reducible rfl)⟩) ((Below.refl _ _).drew) ?_
          try simp only [nrm]
          refine WpT.take (i := 6) rfl (by kernel_rfl) (fun _ _ _ h => h) (.inl ⟨by rfl, fun w hSw => by clear hSw; go_simp; (try go_bits); (try rw [if_pos (by omega)]); (try with_reducible rfl)⟩) ((Below.refl _ _).drew) ?_
          try simp only [nrm]
          refine WpT.take (i := 7) rfl (by kernel_rfl) (fun _ _ _ h => h) (yields_loadK (us := bv (dg y)) rfl rfl rfl aggDg (by rw [sizeDg, bv_dg_len]) hcb) ((Below.refl _ _).drew) ?_
          try simp only [nrm]
          refine WpT.take (i := 8) rfl (by kernel_rfl) (fun _ _ _ h => h) (.inl ⟨by rfl, fun w hSw => by clear hSw; go_simp; (try go_bits); (try rw [if_pos (by omega)]); (try with_reducible rfl)⟩) ((Below.refl _ _).drew) ?_
          try simp only [nrm]
          refine WpT.done (by kernel_rfl) ?_ _
          go_wp2_with fail
          go_ret
          exact ⟨rfl, hbw.drew⟩
      · obtain rfl : k = n := by omega
        have hV : V = true := HX.out (fun j hj hj2 => HV.out j hj hj2 (by have := HLA.out; omega))
        subst hV
        clear HX HY HV
        go_wp2_with fail
        go_ret
        exact ⟨rfl, hbw⟩
  · have hV : decide (a = b) = false := by
      rw [decide_eq_false_iff_not]
      intro e
      subst e
      exact hnm (ha.len.symm.trans hb.len)
    rw [hV]
    have dn : ((n : Int) != m) = true := by simp; omega
    clear ha hb hV
    go_enter Tryd.func17, Tryd.ntmps17
    go_wp2_with fail
    go_ret
    exact ⟨rfl, Below.refl _ _⟩
theorem build0_D (W : World) : (Instr.buildSlice 22 0 #[]).run Tryd.prog W = .ok (.slice (some ⟨W.heap.size, 0, none⟩) 0 0) (W.alloc (.cells #[] 31)) := by kernel_rfl
theorem wp_lit0D {w : World} {o : Oper} {a : Act} {K : Act → World → Prop} {Q : Exit → Act → World → Prop} (ho : o.op = .buildSlice 22 0 #[])
    (h : ∀ w' g, g = w.heap.size → OwnDs w' w.heap.size (.slice (some ⟨g, 0, none⟩) 0 0) [] → Below w.heap.size w w' → g < w'.heap.size → K (a.put o.dst (.slice (some ⟨g, 0, none⟩) 0 0)) w') : o.wp Tryd.prog a w K Q := by
  have h2 := h _ _ rfl (World.ownsRow_made w #[] 0 (Nat.le_refl _) (Nat.zero_le _) rfl) ((Below.refl _ _).alloc (Nat.le_refl _) _) (by simp)
  unfold Oper.wp execOp
  simp only [ho, List.map_toArray, List.map_nil, build0_D, Sem.run_bind, Result.andThen_ok, Sem.run_pure]
  exact h2
theorem wp_lit1Dl {w : World} {o : Oper} {a : Act} {K : Act → World → Prop} {Q : Exit → Act → World → Prop} {y : Operand} {n : Nat} (ho : o.op = .buildSlice 22 1 #[(0, y)]) (hy : a.eval y = dgV n)
    (h : ∀ w' g, g = w.heap.size → Rd w' (some ⟨g, 0, none⟩) (1 * 16) (dgsL [n]) → Below w.heap.size w w' → g < w'.heap.size → K (a.put o.dst (.slice (some ⟨g, 0, none⟩) 1 1)) w') : o.wp Tryd.prog a w K Q := by
  have h2 := h _ _ rfl (by have := dg_rd (Blk.new w 31 (dgC n)); simpa [dgsL] using this) ((Below.refl _ _).alloc (Nat.le_refl _) _) (by simp)
  unfold Oper.wp execOp
  simp only [ho, List.map_toArray, List.map_cons, List.map_nil, hy, build1_D, Sem.run_bind, Result.andThen_ok, Sem.run_pure]
  exact h2
theorem Rd.grown_ne {w w' : World} {g n : Nat} {xs : List Value} {row : Option Nat} (h : Rd w (some ⟨g, 0, none⟩) n xs) (hg : w.grownBy w' row) (hlt : g < w.heap.size) (hn : row ≠ some g) : Rd w' (some ⟨g, 0, none⟩) n xs :=
  ⟨h.len, fun k u hk => by
    obtain ⟨ad, e, hc⟩ := h.at_ k u hk
    injection e with e
    subst e
    exact ⟨_, rfl, (World.cell?_of_block (hg.block _ (by rw [block_of_add]; exact hlt) (by rw [block_of_add]; exact fun e => hn e.symm))).trans hc⟩⟩
/-- A slice of the call's own is left. -/
def DsIs (l : List Nat) (w : World) (e : Ending) (w' : World) : Prop := ∃ v, e = .returned v ∧ OwnDs w' w.heap.size v l ∧ Below w.heap.size w w'
theorem OwnDs.app {w : World} {B : Nat} {v : Value} {a b : List Nat} (h : w.ownsRow B 31 16 v (a.length + b.length) (dgsL a ++ dgsL b)) : OwnDs w B v (a ++ b) := by
  unfold OwnDs
  rw [List.length_append, dgsL_app]
  exact h
set_option maxRecDepth 20000 in
set_option maxHeartbeats 1000000 in
theorem with_any (l : List Nat) (d : Nat) (A : Option Addr) (n c : Nat) (w : World) (hn : n ≤ 1000000) (hr : RdD w A n l) : Calls Tryd.prog 60 #[.slice A n c, dgV d] w (DsIs (l ++ [d]) w) := by
  obtain ⟨wa, hwa, hb0, q0⟩ : ∃ wa : World, wa = w.alloc (.cells (dgC d) 31) ∧ Below w.heap.size w wa ∧ Blk wa w.heap.size 31 (dgC d) :=
    ⟨_, rfl, (Below.refl w.heap.size w).alloc (Nat.le_refl _) _, Blk.new _ _ _⟩
  have HWA := Lib.hid hwa
  have HR := Lib.hid (hr.below hb0)
  have HL := Lib.hid hr.len
  clear hwa hr
  have hS : Below wa.heap.size wa wa.drew := (Below.refl _ _).drew
  unfold DsIs
  go_enter Tryd.func60, Tryd.ntmps60
  go_upto_region 1 with (fail)
  change Code.wp _ _ _ _ (w.alloc (.cells (dgC d) 31))
  rw [← HWA.out]
  refine wp_region_T 6 (by kernel_rfl) ?_
  refine WpT.take (i := 1) rfl (by kernel_rfl) (fun _ _ _ h => h) (.inl ⟨by rfl, fun w hSw => by clear hSw; go_simp; (try go_bits); (try rw [if_pos (by omega)]); (try with_reducible rfl)⟩) (hS) ?_
  try simp only [nrm]
  refine WpT.take (i := 3) rfl (by kernel_rfl) (fun _ _ _ h => h) (yields_blk rfl rfl rfl aggDg (by rw [sizeDg, dgC_size]) q0) (hS) ?_
  try simp only [nrm]
  refine WpT.fork (i := 0) (j := 4) rfl rfl (by kernel_rfl) (fun K hK => ?_) (fun K hK => ?_)
  · refine (if_pos (by rfl)).mpr ?_; refine wp_lit0D rfl ?_; intro wL gL hgL hown hbL ltL; replace hown := OwnDs.lower hown hS.size; (try have hne : g4 ≠ gL := by omega); clear hgL; replace hS := bstep hS hbL; (try (replace hr4 := hr4.below hbL; have lt4 := Nat.lt_of_lt_of_le lt4 hbL.size))
    refine hK _ _ (hS) ?_; clear hK K; try simp only [nrm]
    refine WpT.fork (i := 2) (j := 4) rfl rfl (by kernel_rfl) (fun K hK => ?_) (fun K hK => ?_)
    · refine (if_pos (by rfl)).mpr ?_; refine wp_appK rfl elemDg (by rfl) hown (by rfl) (m := n) (HR.out.below hS).rd (one_dgsL l) (by simp; omega) hS.size ?_; intro v5 w5 hown5 hg5 hb5; (try replace hr4 := hr4.grown_ne hg5 lt4 (fun e => hne (Option.some.inj e).symm)); replace hown : OwnDs w5 wa.heap.size v5 ([] ++ l) := OwnDs.app (by rw [HL.out]; exact hown5); clear hown5; replace hS := hS.trans hb5
      refine hK _ _ (hS) ?_; clear hK K; try simp only [nrm]
      refine WpT.one (i := 4) rfl (by kernel_rfl) (fun K hK => ?_)
      refine (if_pos (by rfl)).mpr ?_; refine wp_lit1Dl rfl (by rfl) ?_; intro w4 g4 hg4 hr4 hb4 lt4; (try have hne : g4 ≠ gL := by omega); clear hg4; (try replace hown := hown.below hb4); replace hS := bstep hS hb4
      refine hK _ _ (hS) ?_; clear hK K; try simp only [nrm]
      refine WpT.one (i := 5) rfl (by kernel_rfl) (fun K hK => ?_)
      refine (if_pos (by rfl)).mpr ?_; refine wp_appK rfl elemDg (by rfl) hown (by rfl) (m := 1) hr4 (one_dgsL [d]) (by simp; have := HL.out; omega) hS.size ?_; intro v6 w6 hown6 hg6 hb6; replace hown6 : OwnDs w6 wa.heap.size v6 (([] ++ l) ++ [d]) := OwnDs.app hown6; replace hS := hS.trans hb6
      refine hK _ _ (hS) ?_; clear hK K; try simp only [nrm]
      refine WpT.tail (i := 6) rfl (by kernel_rfl) (by kernel_rfl) (fun K hK => ?_)
      go_simp; (try go_bits)
      refine hK _ _ ?_; clear hK K; try simp only [nrm]
      refine WpT.done (by kernel_rfl) ?_ _
      go_wp2_with fail; go_ret; exact ⟨_, rfl, hown6.lower hb0.size, bstep hb0 hS⟩
    · refine (if_pos (by rfl)).mpr ?_; refine wp_lit1Dl rfl (by rfl) ?_; intro w4 g4 hg4 hr4 hb4 lt4; (try have hne : g4 ≠ gL := by omega); clear hg4; (try replace hown := hown.below hb4); replace hS := bstep hS hb4
      refine hK _ _ (hS) ?_; clear hK K; try simp only [nrm]
      refine WpT.one (i := 2) rfl (by kernel_rfl) (fun K hK => ?_)
      refine (if_pos (by rfl)).mpr ?_; refine wp_appK rfl elemDg (by rfl) hown (by rfl) (m := n) (HR.out.below hS).rd (one_dgsL l) (by simp; omega) hS.size ?_; intro v5 w5 hown5 hg5 hb5; (try replace hr4 := hr4.grown_ne hg5 lt4 (fun e => hne (Option.some.inj e).symm)); replace hown : OwnDs w5 wa.heap.size v5 ([] ++ l) := OwnDs.app (by rw [HL.out]; exact hown5); clear hown5; replace hS := hS.trans hb5
      refine hK _ _ (hS) ?_; clear hK K; try simp only [nrm]
      refine WpT.one (i := 5) rfl (by kernel_rfl) (fun K hK => ?_)
      refine (if_pos (by rfl)).mpr ?_; refine wp_appK rfl elemDg (by rfl) hown (by rfl) (m := 1) hr4 (one_dgsL [d]) (by simp; have := HL.out; omega) hS.size ?_; intro v6 w6 hown6 hg6 hb6; replace hown6 : OwnDs w6 wa.heap.size v6 (([] ++ l) ++ [d]) := OwnDs.app hown6; replace hS := hS.trans hb6
      refine hK _ _ (hS) ?_; clear hK K; try simp only [nrm]
      refine WpT.tail (i := 6) rfl (by kernel_rfl) (by kernel_rfl) (fun K hK => ?_)
      go_simp; (try go_bits)
      refine hK _ _ ?_; clear hK K; try simp only [nrm]
      refine WpT.done (by kernel_rfl) ?_ _
      go_wp2_with fail; go_ret; exact ⟨_, rfl, hown6.lower hb0.size, bstep hb0 hS⟩
  · refine (if_pos (by rfl)).mpr ?_; refine wp_lit1Dl rfl (by rfl) ?_; intro w4 g4 hg4 hr4 hb4 lt4; (try have hne : g4 ≠ gL := by omega); clear hg4; (try replace hown := hown.below hb4); replace hS := bstep hS hb4
    refine hK _ _ (hS) ?_; clear hK K; try simp only [nrm]
    refine WpT.one (i := 0) rfl (by kernel_rfl) (fun K hK => ?_)
    refine (if_pos (by rfl)).mpr ?_; refine wp_lit0D rfl ?_; intro wL gL hgL hown hbL ltL; replace hown := OwnDs.lower hown hS.size; (try have hne : g4 ≠ gL := by omega); clear hgL; replace hS := bstep hS hbL; (try (replace hr4 := hr4.below hbL; have lt4 := Nat.lt_of_lt_of_le lt4 hbL.size))
    refine hK _ _ (hS) ?_; clear hK K; try simp only [nrm]
    refine WpT.one (i := 2) rfl (by kernel_rfl) (fun K hK => ?_)
    refine (if_pos (by rfl)).mpr ?_; refine wp_appK rfl elemDg (by rfl) hown (by rfl) (m := n) (HR.out.below hS).rd (one_dgsL l) (by simp; omega) hS.size ?_; intro v5 w5 hown5 hg5 hb5; (try replace hr4 := hr4.grown_ne hg5 lt4 (fun e => hne (Option.some.inj e).symm)); replace hown : OwnDs w5 wa.heap.size v5 ([] ++ l) := OwnDs.app (by rw [HL.out]; exact hown5); clear hown5; replace hS := hS.trans hb5
    refine hK _ _ (hS) ?_; clear hK K; try simp only [nrm]
    refine WpT.one (i := 5) rfl (by kernel_rfl) (fun K hK => ?_)
    refine (if_pos (by rfl)).mpr ?_; refine wp_appK rfl elemDg (by rfl) hown (by rfl) (m := 1) hr4 (one_dgsL [d]) (by simp; have := HL.out; omega) hS.size ?_; intro v6 w6 hown6 hg6 hb6; replace hown6 : OwnDs w6 wa.heap.size v6 (([] ++ l) ++ [d]) := OwnDs.app hown6; replace hS := hS.trans hb6
    refine hK _ _ (hS) ?_; clear hK K; try simp only [nrm]
    refine WpT.tail (i := 6) rfl (by kernel_rfl) (by kernel_rfl) (fun K hK => ?_)
    go_simp; (try go_bits)
    refine hK _ _ ?_; clear hK K; try simp only [nrm]
    refine WpT.done (by kernel_rfl) ?_ _
    go_wp2_with fail; go_ret; exact ⟨_, rfl, hown6.lower hb0.size, bstep hb0 hS⟩
end Go.Proofs.YtgggpnjnhhkmgaaDoor
namespace Go.Proofs.YtgggpnjnhhkmgaaDoor
set_option linter.unusedSimpArgs false
set_option linter.unusedVariables false
open Go.RowKit Exch
theorem Merk.incl_len (nd : Nat → Nat → Nat) (em : Nat) (K : Nat) : ∀ (l : List Nat) (i : Nat), l.length ≤ K → (Merk.incl nd em l i).length ≤ l.length := by
  induction K with
  | zero => intro l i h; rw [Merk.incl, dif_neg (by omega)]; simp
  | succ K ih =>
    intro l i h
    rw [Merk.incl]
    by_cases h2 : 2 ≤ l.length
    · have h3 := Merk.split_lt h2
      have h4 := Merk.split_pos l.length
      rw [dif_pos h2]
      split
      · rw [List.length_append]; have := ih (l.take (Merk.split l.length)) i (by simp; omega); simp at this ⊢; omega
      · rw [List.length_append]; have := ih (l.drop (Merk.split l.length)) (i - Merk.split l.length) (by simp; omega); simp at this ⊢; omega
    · rw [dif_neg h2]; simp
theorem Merk.incl_left (nd : Nat → Nat → Nat) (em : Nat) {l : List Nat} {i : Nat} (h : 2 ≤ l.length) (hi : i < Merk.split l.length) : Merk.incl nd em l i = Merk.incl nd em (l.take (Merk.split l.length)) i ++ [Merk.root nd em (l.drop (Merk.split l.length))] := by
  rw [Merk.incl, dif_pos h, if_pos hi]
theorem Merk.incl_right (nd : Nat → Nat → Nat) (em : Nat) {l : List Nat} {i : Nat} (h : 2 ≤ l.length) (hi : ¬ i < Merk.split l.length) : Merk.incl nd em l i = Merk.incl nd em (l.drop (Merk.split l.length)) (i - Merk.split l.length) ++ [Merk.root nd em (l.take (Merk.split l.length))] := by
  rw [Merk.incl, dif_pos h, if_neg hi]
theorem Merk.incl_one (nd : Nat → Nat → Nat) (em : Nat) {l : List Nat} {i : Nat} (h : ¬ 2 ≤ l.length) : Merk.incl nd em l i = [] := by
  rw [Merk.incl, dif_neg h]
set_option maxRecDepth 20000 in
set_option maxHeartbeats 2000000 in
theorem refIncl_any {nd : Nat → Nat → Nat} {em : Nat} (N : Nds nd em) (K : Nat) : ∀ (l : List Nat) (i : Nat) (A : Option Addr) (n c : Nat) (w : World), n ≤ K → n ≤ 1000000 → i < n → RdD w A n l → n ≤ c → c ≤ maxLen → RCon w →
    Calls Tryd.prog 35 #[.slice A n c, .int .i64 i] w (DsIs (Merk.incl nd em l i) w) := by
  induction K with
  | zero => intro l i A n c w hK hn hi; omega
  | succ K ih =>
    intro l i A n c w hK hn hi hr hnc hcm hg
    have hl := hr.len
    by_cases h1 : n = 1
    · subst h1
      rw [Merk.incl_one nd em (by omega)]
      unfold DsIs
      clear hr hg
      go_enter Tryd.func35, Tryd.ntmps35
      go_wp2_with fail
      go_ret
      exact ⟨_, rfl, OwnDs.nil _ _, Below.refl _ _⟩
    · have hk1 := Merk.split_lt (n := n) (by omega)
      have hk0 := Merk.split_pos n
      have HS := Lib.hid (fun W => refSplit_any n W (by omega) (by omega))
      have hcm2 : c ≤ 9223372036854775807 := hcm
      have e1 : ((n : Int) == 1) = false := by simp; omega
      have HRT := Lib.hid (fun (W : World) (hb : Below w.heap.size w W) => refRoot_any N n (l.take (Merk.split n)) A (Merk.split n) c W (by omega) (by omega) ((hr.below hb).take (by omega)) (by omega) hcm (hg.below hb))
      have HRD := Lib.hid (fun (W : World) (hb : Below w.heap.size w W) => refRoot_any N n (l.drop (Merk.split n)) (if c = Merk.split n then A else A.map (·.add (Merk.split n * 16))) (n - Merk.split n) (c - Merk.split n) W (by omega) (by omega) ((hr.below hb).drop (by omega) hnc) (by omega) (by omega) (hg.below hb))
      by_cases hik : i < Merk.split n
      · have hx := Merk.incl_left nd em (l := l) (i := i) (by omega) (by rw [hl]; exact hik)
        rw [hl] at hx
        have hpl := Merk.incl_len nd em _ (l.take (Merk.split n)) i (Nat.le_refl _)
        rw [List.length_take] at hpl
        have HI := Lib.hid (fun (W : World) (hb : Below w.heap.size w W) => ih (l.take (Merk.split n)) i A (Merk.split n) c W (by omega) (by omega) hik ((hr.below hb).take (by omega)) (by omega) hcm (hg.below hb))
        rw [hx]
        clear hx ih HRT hr hg hcm hl
        have HPL : Hid ((Merk.incl nd em (l.take (Merk.split n)) i).length ≤ 1000000) := Lib.hid (by omega)
        clear hpl
        generalize Merk.root nd em (l.drop (Merk.split n)) = X at *
        generalize Merk.incl nd em (l.take (Merk.split n)) i = P at *
        generalize Merk.split n = k at *
        unfold DsIs at HI ⊢
        unfold DgIs at HRD
        have hik2 : (i : Int) < (k : Int) := by omega
        go_enter Tryd.func35, Tryd.ntmps35
        go_upto_region 5 with (go_at_call 40; refine (HS.out _).mono ?_; rintro e w1 ⟨rfl, rfl⟩)
        have hb0 := Below.refl w1.heap.size w1
        have hS : Below w1.heap.size w1 w1.drew := (Below.refl _ _).drew
        refine wp_region_T 10 (by kernel_rfl) ?_
        refine WpT.take (i := 0) rfl (by kernel_rfl) (fun _ _ _ h => h) (.inl ⟨by rfl, fun w hSw => by clear hSw; go_simp; (try go_bits); (try rw [if_pos (by omega)]); (try with_reducible rfl)⟩) (hS) ?_
        try simp only [nrm]
        refine WpT.take (i := 1) rfl (by kernel_rfl) (fun _ _ _ h => h) (.inl ⟨by rfl, fun w hSw => by clear hSw; go_simp; (try go_bits); (try rw [if_pos (by omega)]); (try with_reducible rfl)⟩) (hS) ?_
        try simp only [nrm]
        refine WpT.take (i := 2) rfl (by kernel_rfl) (fun _ _ _ h => h) (.inl ⟨by rfl, fun w hSw => by clear hSw; go_simp; (try go_bits); (try rw [if_pos (by omega)]); (try with_reducible rfl)⟩) (hS) ?_
        try simp only [nrm]
        refine WpT.take (i := 3) rfl (by kernel_rfl) (fun _ _ _ h => h) (.inl ⟨by rfl, fun w hSw => by clear hSw; go_simp; (try go_bits); (try rw [if_pos (by omega)]); (try with_reducible rfl)⟩) (hS) ?_
        try simp only [nrm]
        refine WpT.take (i := 5) rfl (by kernel_rfl) (fun _ _ _ h => h) (.inl ⟨by rfl, fun w hSw => by clear hSw; go_simp; (try go_bits); (try rw [if_pos (by omega)]); (try with_reducible rfl)⟩) (hS) ?_
        try simp only [nrm]
        refine WpT.take (i := 6) rfl (by kernel_rfl) (fun _ _ _ h => h) (.inl ⟨by rfl, fun w hSw => by clear hSw; go_simp; (try go_bits); (try rw [if_pos (by omega)]); (try with_reducible rfl)⟩) (hS) ?_
        try simp only [nrm]
        refine WpT.take (i := 7) rfl (by kernel_rfl) (fun _ _ _ h => h) (.inl ⟨by rfl, fun w hSw => by clear hSw; go_simp; (try go_bits); (try rw [if_pos (by omega)]); (try with_reducible rfl)⟩) (hS) ?_
        try simp only [nrm]
        refine WpT.one (i := 4) rfl (by kernel_rfl) (fun K hK => ?_)
        go_simp; refine (HI.out _ hS).mono ?_; rintro e w5 ⟨v5, rfl, hown5, hb5⟩; obtain ⟨A5, c5, rfl, h51, h52, hr5⟩ := hown5.form; clear hown5; replace hS := bstep hS hb5
        refine hK _ _ (hS) ?_; clear hK K; try simp only [nrm]
        refine WpT.one (i := 8) rfl (by kernel_rfl) (fun K hK => ?_)
        go_simp; refine (HRD.out _ hS).mono ?_; rintro e w6 ⟨rfl, hb6⟩; replace hS := bstep hS hb6; replace hr5 := hr5.below hb6
        refine hK _ _ (hS) ?_; clear hK K; try simp only [nrm]
        refine WpT.one (i := 9) rfl (by kernel_rfl) (fun K hK => ?_)
        go_simp; refine (with_any P X A5 P.length c5 _ HPL.out hr5).mono ?_; unfold DsIs; rintro e w7 ⟨v7, rfl, hown7, hb7⟩; replace hown7 := hown7.lower hS.size; replace hS := bstep hS hb7
        refine hK _ _ (hS) ?_; clear hK K; try simp only [nrm]
        refine WpT.tail (i := 10) rfl (by kernel_rfl) (by kernel_rfl) (fun K hK => ?_)
        go_simp; (try go_bits)
        refine hK _ _ ?_; clear hK K; try simp only [nrm]
        refine WpT.done (by kernel_rfl) ?_ _
        go_wp2_with fail; go_ret; exact ⟨_, rfl, hown7, hS⟩
      · have hx := Merk.incl_right nd em (l := l) (i := i) (by omega) (by rw [hl]; exact hik)
        rw [hl] at hx
        have hpl := Merk.incl_len nd em _ (l.drop (Merk.split n)) (i - Merk.split n) (Nat.le_refl _)
        rw [List.length_drop] at hpl
        have HI := Lib.hid (fun (W : World) (hb : Below w.heap.size w W) => ih (l.drop (Merk.split n)) (i - Merk.split n) (if c = Merk.split n then A else A.map (·.add (Merk.split n * 16))) (n - Merk.split n) (c - Merk.split n) W (by omega) (by omega) (by omega) ((hr.below hb).drop (by omega) hnc) (by omega) (by omega) (hg.below hb))
        rw [hx]
        have hcast : ((i - Merk.split n : Nat) : Int) = (i : Int) - (Merk.split n : Int) := by omega
        rw [hcast] at HI
        have HPL : Hid ((Merk.incl nd em (l.drop (Merk.split n)) (i - Merk.split n)).length ≤ 1000000) := Lib.hid (by omega)
        clear hx ih HRD hr hg hcm hl hcast
        clear hpl
        generalize Merk.root nd em (l.take (Merk.split n)) = X at *
        generalize Merk.incl nd em (l.drop (Merk.split n)) (i - Merk.split n) = P at *
        generalize Merk.split n = k at *
        unfold DsIs at HI ⊢
        unfold DgIs at HRT
        have hik2 : ¬ (i : Int) < (k : Int) := by omega
        have hsub : 0 ≤ (i : Int) - (k : Int) ∧ (i : Int) - (k : Int) ≤ 1000000 := by omega
        have HW : Hid (wrap64 ((i : Int) - (k : Int)) = (i : Int) - (k : Int) ∧ IntKind.i64.wrap ((i : Int) - (k : Int)) = (i : Int) - (k : Int)) := Lib.hid ⟨by unfold wrap64; omega, wrap_small _ (by omega) (by omega)⟩
        go_enter Tryd.func35, Tryd.ntmps35
        go_upto_region 6 with (go_at_call 40; refine (HS.out _).mono ?_; rintro e w1 ⟨rfl, rfl⟩)
        have hS : Below w1.heap.size w1 w1.drew := (Below.refl _ _).drew
        refine wp_region_T 12 (by kernel_rfl) ?_
        refine WpT.take (i := 0) rfl (by kernel_rfl) (fun _ _ _ h => h) (.inl ⟨by rfl, fun w hSw => by clear hSw; go_simp; (try go_bits); (try rw [if_pos (by omega)]); (try with_reducible rfl)⟩) (hS) ?_
        try simp only [nrm]
        refine WpT.take (i := 1) rfl (by kernel_rfl) (fun _ _ _ h => h) (.inl ⟨by rfl, fun w hSw => by clear hSw; go_simp; (try go_bits); (try rw [if_pos (by omega)]); (try with_reducible rfl)⟩) (hS) ?_
        try simp only [nrm]
        refine WpT.take (i := 2) rfl (by kernel_rfl) (fun _ _ _ h => h) (.inl ⟨by rfl, fun w hSw => by clear hSw; go_simp; (try go_bits); (try rw [if_pos (by omega)]); (try with_reducible rfl)⟩) (hS) ?_
        try simp only [nrm]
        refine WpT.take (i := 3) rfl (by kernel_rfl) (fun _ _ _ h => h) (.inl ⟨by rfl, fun w hSw => by clear hSw; go_simp; (try go_bits); (try rw [if_pos (by omega)]); (try with_reducible rfl)⟩) (hS) ?_
        try simp only [nrm]
        refine WpT.take (i := 4) rfl (by kernel_rfl) (fun _ _ _ h => h) (.inl ⟨by rfl, fun w hSw => by clear hSw; go_simp; (try go_bits); (try rw [if_pos (by omega)]); (try with_reducible rfl)⟩) (hS) ?_
        try simp only [nrm]
        refine WpT.take (i := 5) rfl (by kernel_rfl) (fun _ _ _ h => h) (.inl ⟨by rfl, fun w hSw => by clear hSw; go_simp; (try go_bits); (try rw [if_pos (by omega)]); (try with_reducible rfl)⟩) (hS) ?_
        try simp only [nrm]
        refine WpT.take (i := 7) rfl (by kernel_rfl) (fun _ _ _ h => h) (.inl ⟨by rfl, fun w hSw => by clear hSw; go_simp; (try go_bits); (try rw [if_pos (by omega)]); (try with_reducible rfl)⟩) (hS) ?_
        try simp only [nrm]
        refine WpT.take (i := 8) rfl (by kernel_rfl) (fun _ _ _ h => h) (.inl ⟨by rfl, fun w hSw => by clear hSw; go_simp; (try go_bits); (try rw [if_pos (by omega)]); (try with_reducible rfl)⟩) (hS) ?_
        try simp only [nrm]
        refine WpT.take (i := 9) rfl (by kernel_rfl) (fun _ _ _ h => h) (.inl ⟨by rfl, fun w hSw => by clear hSw; go_simp; (try go_bits); (try rw [if_pos (by omega)]); (try with_reducible rfl)⟩) (hS) ?_
        try simp only [nrm]
        refine WpT.one (i := 6) rfl (by kernel_rfl) (fun K hK => ?_)
        go_simp; (try simp only [HW.out.1, HW.out.2]); refine (HI.out _ hS).mono ?_; rintro e w5 ⟨v5, rfl, hown5, hb5⟩; obtain ⟨A5, c5, rfl, h51, h52, hr5⟩ := hown5.form; clear hown5; replace hS := bstep hS hb5
        refine hK _ _ (hS) ?_; clear hK K; try simp only [nrm]
        refine WpT.one (i := 10) rfl (by kernel_rfl) (fun K hK => ?_)
        go_simp; refine (HRT.out _ hS).mono ?_; rintro e w6 ⟨rfl, hb6⟩; replace hS := bstep hS hb6; replace hr5 := hr5.below hb6
        refine hK _ _ (hS) ?_; clear hK K; try simp only [nrm]
        refine WpT.one (i := 11) rfl (by kernel_rfl) (fun K hK => ?_)
        go_simp; refine (with_any P X A5 P.length c5 _ HPL.out hr5).mono ?_; unfold DsIs; rintro e w7 ⟨v7, rfl, hown7, hb7⟩; replace hown7 := hown7.lower hS.size; replace hS := bstep hS hb7
        refine hK _ _ (hS) ?_; clear hK K; try simp only [nrm]
        refine WpT.tail (i := 12) rfl (by kernel_rfl) (by kernel_rfl) (fun K hK => ?_)
        go_simp; (try go_bits)
        refine hK _ _ ?_; clear hK K; try simp only [nrm]
        refine WpT.done (by kernel_rfl) ?_ _
        go_wp2_with fail; go_ret; exact ⟨_, rfl, hown7, hS⟩
end Go.Proofs.YtgggpnjnhhkmgaaDoor
namespace Go.Proofs.YtgggpnjnhhkmgaaDoor
set_option linter.unusedSimpArgs false
set_option linter.unusedVariables false
open Go.RowKit Exch
/-! Paths, or errors. -/
def inclR (nd : Nat → Nat → Nat) (em : Nat) (l : List Nat) (i : Int) : List Nat × Int := if 0 ≤ i ∧ i < l.length then (Merk.incl nd em l i.toNat, 0) else ([], 1)
def csyR (nd : Nat → Nat → Nat) (em : Nat) (l : List Nat) (m : Int) : List Nat × Int := if 0 ≤ m ∧ m ≤ l.length then (if m = 0 ∨ m = l.length then ([], 0) else (Merk.csy nd em l m.toNat true, 0)) else ([], 1)
abbrev ptC (v : Value) (er : Int) : Array Value := #[v, .int .i64 er]
theorem aggPt : (Tryd.prog.underlying 28).map isAggDesc = some true := by kernel_rfl
theorem sizePt : (Tryd.prog.info? 28).map (·.size) = some 2 := by kernel_rfl
theorem zeroPt (W : World) : (zeroValue 28).run Tryd.prog W = .ok (.agg (ptC (.slice none 0 0) 0)) W := by kernel_rfl
theorem build_ptE (er : Int) (W : World) : (Instr.build 28 #[(1, .int .i64 er)]).run Tryd.prog W = .ok (.agg (ptC (.slice none 0 0) er)) W := by kernel_rfl
theorem build_ptL (A : Option Addr) (n c : Nat) (W : World) : (Instr.build 28 #[(0, .slice A n c)]).run Tryd.prog W = .ok (.agg (ptC (.slice A n c) 0)) W := by kernel_rfl
theorem build_pt0 (W : World) : (Instr.build 28 #[]).run Tryd.prog W = .ok (.agg (ptC (.slice none 0 0) 0)) W := by kernel_rfl
theorem wpList_build1 {P : Program} {w : World} {ops : Array Oper} {rest : List Oper} {o : Oper} {a : Act} {Q : Exit → Act → World → Prop} (hgd : o.guard = none) {T : TypeId} {i : Nat} {x : Operand} {vx v : Value} (ho : o.op = .build T #[(i, x)]) (hx : a.eval x = vx)
    (hr : ∀ W, (Instr.build T #[(i, vx)]).run P W = .ok v W) (h : wpList P ops Q rest (a.put o.dst v) w) : wpList P ops Q (o :: rest) a w := by
  refine wpList_plain hgd fun K hK => ?_
  unfold Oper.wp execOp
  simp only [ho, List.map_toArray, List.map_cons, List.map_nil, hx, Sem.run_bind, hr, Result.andThen_ok, Sem.run_pure]
  exact hK _ _ h
theorem wpList_build0 {P : Program} {w : World} {ops : Array Oper} {rest : List Oper} {o : Oper} {a : Act} {Q : Exit → Act → World → Prop} (hgd : o.guard = none) {T : TypeId} {v : Value} (ho : o.op = .build T #[])
    (hr : ∀ W, (Instr.build T #[]).run P W = .ok v W) (h : wpList P ops Q rest (a.put o.dst v) w) : wpList P ops Q (o :: rest) a w := by
  refine wpList_plain hgd fun K hK => ?_
  unfold Oper.wp execOp
  simp only [ho, List.map_toArray, List.map_nil, Sem.run_bind, hr, Result.andThen_ok, Sem.run_pure]
  exact hK _ _ h
def PtIs (p : List Nat × Int) (w : World) (e : Ending) (w' : World) : Prop := ∃ v, e = .returned (.agg (ptC v p.2)) ∧ OwnDs w' w.heap.size v p.1 ∧ Below w.heap.size w w'
theorem one_ptC (A : Option Addr) (n c : Nat) (er : Int) : (ptC (.slice A n c) er).all (·.oneCell') = true := by simp [ptC, Value.oneCell']
set_option maxRecDepth 20000 in
set_option maxHeartbeats 1000000 in
theorem refInclusion_bad (l : List Nat) (i : Int) (A : Option Addr) (n c : Nat) (w : World) (h : i < 0 ∨ (n : Int) ≤ i) :
    Calls Tryd.prog 12 #[.slice A n c, .int .i64 i] w (PtIs ([], 1) w) := by
  have HB := Lib.hid (build_ptE 1)
  unfold PtIs
  by_cases h0 : i < 0
  · have d0 : decide (i < 0) = true := by simpa using h0
    go_enter Tryd.func12, Tryd.ntmps12
    go_wp2_with (first
      | ((with_reducible show wpList _ _ _ (⟨some 4, _, _, _, _, _⟩ :: _) _ _); refine wpList_new (cs := ptC (.slice none 0 0) 0) rfl rfl zeroPt ?_; intro w0 g0 hg0 q0 hb0 lt0; have HG0 := Lib.hid hg0; clear hg0)
      | ((with_reducible show wpList _ _ _ (⟨some 13, _, _, _, _, _⟩ :: _) _ _); refine wpList_build1 rfl rfl rfl HB.out ?_)
      | ((with_reducible show wpList _ _ _ (⟨none, _, _, _, _, _⟩ :: _) _ _); refine wpList_put (vs := ptC (.slice none 0 0) 1) rfl rfl rfl rfl q0 (by rfl) (by rw [sizePt]; rfl) (one_ptC _ _ _ _) ?_; intro w9 ht9 b9))
    exact ret_blk rfl rfl rfl b9 aggPt (by rw [sizePt]; rfl) ⟨_, rfl, OwnDs.nil _ _, hb0.trans (ht9.below _ (by have := HG0.out; omega))⟩
  · have d0 : decide (i < 0) = false := by simpa using h0
    have d1 : decide (i ≥ (n : Int)) = true := by simp; omega
    go_enter Tryd.func12, Tryd.ntmps12
    go_wp2_with (first
      | ((with_reducible show wpList _ _ _ (⟨some 4, _, _, _, _, _⟩ :: _) _ _); refine wpList_new (cs := ptC (.slice none 0 0) 0) rfl rfl zeroPt ?_; intro w0 g0 hg0 q0 hb0 lt0; have HG0 := Lib.hid hg0; clear hg0)
      | ((with_reducible show wpList _ _ _ (⟨some 13, _, _, _, _, _⟩ :: _) _ _); refine wpList_build1 rfl rfl rfl HB.out ?_)
      | ((with_reducible show wpList _ _ _ (⟨none, _, _, _, _, _⟩ :: _) _ _); refine wpList_put (vs := ptC (.slice none 0 0) 1) rfl rfl rfl rfl q0 (by rfl) (by rw [sizePt]; rfl) (one_ptC _ _ _ _) ?_; intro w9 ht9 b9))
    exact ret_blk rfl rfl rfl b9 aggPt (by rw [sizePt]; rfl) ⟨_, rfl, OwnDs.nil _ _, hb0.trans (ht9.below _ (by have := HG0.out; omega))⟩
set_option maxRecDepth 20000 in
set_option maxHeartbeats 1000000 in
theorem refInclusion_any {nd : Nat → Nat → Nat} {em : Nat} (N : Nds nd em) (l : List Nat) (i : Int) (A : Option Addr) (n c : Nat) (w : World) (hn : n ≤ 1000000) (hr : RdD w A n l) (hnc : n ≤ c) (hcm : c ≤ maxLen) (hg : RCon w) :
    Calls Tryd.prog 12 #[.slice A n c, .int .i64 i] w (PtIs (inclR nd em l i) w) := by
  have hl := hr.len
  unfold inclR
  by_cases h : 0 ≤ i ∧ i < l.length
  · rw [if_pos h]
    obtain ⟨k, rfl⟩ : ∃ k : Nat, i = k := ⟨i.toNat, by omega⟩
    have hk : k < n := by omega
    have HI := Lib.hid (fun (W : World) (hb : Below w.heap.size w W) => refIncl_any N n l k A n c W (Nat.le_refl _) hn hk (hr.below hb) hnc hcm (hg.below hb))
    rw [Int.toNat_natCast]
    clear hr hg h hl
    generalize Merk.incl nd em l k = P at *
    have HBL := Lib.hid build_ptL
    have d0 : decide ((k : Int) < 0) = false := by simp
    have d1 : decide ((k : Int) ≥ (n : Int)) = false := by simp; omega
    unfold DsIs at HI
    unfold PtIs
    go_enter Tryd.func12, Tryd.ntmps12
    go_upto_region 3 with ((with_reducible show wpList _ _ _ (⟨some 4, _, _, _, _, _⟩ :: _) _ _); refine wpList_new (cs := ptC (.slice none 0 0) 0) rfl rfl zeroPt ?_; intro w0 g0 hg0 q0 hb0 lt0; have HG0 := Lib.hid hg0; clear hg0)
    go_wp2_with fail
    refine (HI.out _ hb0).mono ?_
    rintro e w5 ⟨v5, rfl, hown5, hb5⟩
    obtain ⟨A5, c5, rfl, -, -, -⟩ := hown5.form
    have q5 := q0.below hb5
    have hB5 := HBL.out A5 P.length c5
    go_wp2_with (first
      | ((with_reducible show wpList _ _ _ (⟨some 17, _, _, _, _, _⟩ :: _) _ _); refine wpList_build1 rfl rfl rfl hB5 ?_)
      | ((with_reducible show wpList _ _ _ (⟨none, _, _, _, _, _⟩ :: _) _ _); refine wpList_put (vs := ptC (.slice A5 P.length c5) 0) rfl rfl rfl rfl q5 (by rfl) (by rw [sizePt]; rfl) (one_ptC _ _ _ _) ?_; intro w9 ht9 b9))
    exact ret_blk rfl rfl rfl b9 aggPt (by rw [sizePt]; rfl) ⟨_, rfl, ownsRow_lower (ht9.own hown5 (fun e => by have h1 := (World.ownsRow.lt hown5 _ e).1; have := HG0.out; have := lt0; omega)) hb0.size, (bstep hb0 hb5).trans (ht9.below _ (by have := HG0.out; omega))⟩
  · rw [if_neg h]
    exact refInclusion_bad l i A n c w (by omega)
end Go.Proofs.YtgggpnjnhhkmgaaDoor
namespace Go.Proofs.YtgggpnjnhhkmgaaDoor
set_option linter.unusedSimpArgs false
set_option linter.unusedVariables false
open Go.RowKit Exch
theorem Merk.csy_true (nd : Nat → Nat → Nat) (em : Nat) {l : List Nat} {m : Nat} (h : m = l.length) : Merk.csy nd em l m true = [] := by rw [Merk.csy, if_pos h, if_pos rfl]
theorem Merk.csy_false (nd : Nat → Nat → Nat) (em : Nat) {l : List Nat} {m : Nat} (h : m = l.length) : Merk.csy nd em l m false = [Merk.root nd em l] := by rw [Merk.csy, if_pos h, if_neg (by simp)]
theorem Merk.csy_left (nd : Nat → Nat → Nat) (em : Nat) {l : List Nat} {m : Nat} (k : Bool) (h : m ≠ l.length) (h2 : 2 ≤ l.length) (hi : m ≤ Merk.split l.length) : Merk.csy nd em l m k = Merk.csy nd em (l.take (Merk.split l.length)) m k ++ [Merk.root nd em (l.drop (Merk.split l.length))] := by
  rw [Merk.csy, if_neg h, dif_pos h2, if_pos hi]
theorem Merk.csy_right (nd : Nat → Nat → Nat) (em : Nat) {l : List Nat} {m : Nat} (k : Bool) (h : m ≠ l.length) (h2 : 2 ≤ l.length) (hi : ¬ m ≤ Merk.split l.length) : Merk.csy nd em l m k = Merk.csy nd em (l.drop (Merk.split l.length)) (m - Merk.split l.length) false ++ [Merk.root nd em (l.take (Merk.split l.length))] := by
  rw [Merk.csy, if_neg h, dif_pos h2, if_neg hi]
theorem Merk.csy_len (nd : Nat → Nat → Nat) (em : Nat) (K : Nat) : ∀ (l : List Nat) (m : Nat) (k : Bool), l.length ≤ K → 1 ≤ m → m ≤ l.length → (Merk.csy nd em l m k).length ≤ l.length := by
  induction K with
  | zero => intro l m k h h1 h2; omega
  | succ K ih =>
    intro l m k h h1 h2
    by_cases he : m = l.length
    · cases k
      · rw [Merk.csy_false nd em he]; simp; omega
      · rw [Merk.csy_true nd em he]; simp
    · have h3 := Merk.split_lt (n := l.length) (by omega)
      have h4 := Merk.split_pos l.length
      by_cases hi : m ≤ Merk.split l.length
      · rw [Merk.csy_left nd em k he (by omega) hi, List.length_append]; have := ih (l.take (Merk.split l.length)) m k (by simp; omega) h1 (by simp; omega); simp at this ⊢; omega
      · rw [Merk.csy_right nd em k he (by omega) hi, List.length_append]; have := ih (l.drop (Merk.split l.length)) (m - Merk.split l.length) false (by simp; omega) (by omega) (by simp; omega); simp at this ⊢; omega
theorem wpList_own1D {w : World} {ops : Array Oper} {rest : List Oper} {o : Oper} {a : Act} {Q : Exit → Act → World → Prop} (hgd : o.guard = none) {y : Operand} {n : Nat} (ho : o.op = .buildSlice 22 1 #[(0, y)]) (hy : a.eval y = dgV n)
    (h : ∀ w' v, OwnDs w' w.heap.size v [n] → Below w.heap.size w w' → wpList Tryd.prog ops Q rest (a.put o.dst v) w') : wpList Tryd.prog ops Q (o :: rest) a w := by
  refine wpList_plain hgd fun K hK => ?_
  have h0 : OwnDs (w.alloc (.cells (dgC n) 31)) w.heap.size (.slice (some ⟨w.heap.size, 0, none⟩) 1 1) [n] := by
    refine ⟨by simp [dgsL, dg_len], .inr ⟨w.heap.size, 1, dgC n, rfl, Nat.le_refl _, Blk.new _ _ _, Nat.le_refl _, by simp [maxLen], by rw [dgC_size], ?_⟩⟩
    simp only [dgsL, dgC, List.flatMap_cons, List.flatMap_nil, List.append_nil, List.length_cons, List.length_nil]
    exact List.take_of_length_le (by rw [bv_dg_len]; omega)
  have h2 := h _ _ h0 ((Below.refl _ _).alloc (Nat.le_refl _) _)
  unfold Oper.wp execOp
  simp only [ho, List.map_toArray, List.map_cons, List.map_nil, hy, build1_D, Sem.run_bind, Result.andThen_ok, Sem.run_pure]
  exact hK _ _ h2
set_option maxRecDepth 20000 in
set_option maxHeartbeats 2000000 in
theorem refCsy_any {nd : Nat → Nat → Nat} {em : Nat} (N : Nds nd em) (K : Nat) : ∀ (l : List Nat) (i : Nat) (mk : Bool) (A : Option Addr) (n c : Nat) (w : World), n ≤ K → n ≤ 1000000 → 1 ≤ i → i ≤ n → RdD w A n l → n ≤ c → c ≤ maxLen → RCon w →
    Calls Tryd.prog 36 #[.slice A n c, .int .i64 i, .bool mk] w (DsIs (Merk.csy nd em l i mk) w) := by
  induction K with
  | zero => intro l i mk A n c w hK hn hi hi2; omega
  | succ K ih =>
    intro l i mk A n c w hK hn hi hi2 hr hnc hcm hg
    have hl := hr.len
    by_cases h1 : i = n
    · have e1 : ((i : Int) == n) = true := by simp; omega
      cases mk with
      | true =>
        rw [Merk.csy_true nd em (by omega)]
        unfold DsIs
        clear hr hg
        go_enter Tryd.func36, Tryd.ntmps36
        go_wp2_with fail
        go_ret
        exact ⟨_, rfl, OwnDs.nil _ _, Below.refl _ _⟩
      | false =>
        rw [Merk.csy_false nd em (by omega)]
        have HR := Lib.hid (refRoot_any N n l A n c w (Nat.le_refl _) hn hr hnc hcm hg)
        generalize Merk.root nd em l = X at *
        unfold DgIs at HR
        unfold DsIs
        clear hr hg
        go_enter Tryd.func36, Tryd.ntmps36
        go_wp2_with fail
        refine HR.out.mono ?_
        rintro e w1 ⟨rfl, hb1⟩
        go_wp2_with ((with_reducible show wpList _ _ _ (⟨some 15, _, _, _, _, _⟩ :: _) _ _); refine wpList_own1D rfl rfl rfl ?_; intro w2 v2 hown2 hb2)
        go_ret
        exact ⟨_, rfl, hown2.lower hb1.size, bstep hb1 hb2⟩
    · have hk1 := Merk.split_lt (n := n) (by omega)
      have hk0 := Merk.split_pos n
      have HS := Lib.hid (fun W => refSplit_any n W (by omega) (by omega))
      have hcm2 : c ≤ 9223372036854775807 := hcm
      have e1 : ((i : Int) == n) = false := by simp; omega
      have HRT := Lib.hid (fun (W : World) (hb : Below w.heap.size w W) => refRoot_any N n (l.take (Merk.split n)) A (Merk.split n) c W (by omega) (by omega) ((hr.below hb).take (by omega)) (by omega) hcm (hg.below hb))
      have HRD := Lib.hid (fun (W : World) (hb : Below w.heap.size w W) => refRoot_any N n (l.drop (Merk.split n)) (if c = Merk.split n then A else A.map (·.add (Merk.split n * 16))) (n - Merk.split n) (c - Merk.split n) W (by omega) (by omega) ((hr.below hb).drop (by omega) hnc) (by omega) (by omega) (hg.below hb))
      by_cases hik : i ≤ Merk.split n
      · have hx := Merk.csy_left nd em (l := l) (m := i) mk (by omega) (by omega) (by rw [hl]; exact hik)
        rw [hl] at hx
        have hpl := Merk.csy_len nd em _ (l.take (Merk.split n)) i mk (Nat.le_refl _) hi (by simp; omega)
        rw [List.length_take] at hpl
        have HI := Lib.hid (fun (W : World) (hb : Below w.heap.size w W) => ih (l.take (Merk.split n)) i mk A (Merk.split n) c W (by omega) (by omega) hi hik ((hr.below hb).take (by omega)) (by omega) hcm (hg.below hb))
        rw [hx]
        clear hx ih HRT hr hg hcm hl
        have HPL : Hid ((Merk.csy nd em (l.take (Merk.split n)) i mk).length ≤ 1000000) := Lib.hid (by omega)
        clear hpl
        generalize Merk.root nd em (l.drop (Merk.split n)) = X at *
        generalize Merk.csy nd em (l.take (Merk.split n)) i mk = P at *
        generalize Merk.split n = k at *
        unfold DsIs at HI ⊢
        unfold DgIs at HRD
        have hik2 : (i : Int) ≤ (k : Int) := by omega
        go_enter Tryd.func36, Tryd.ntmps36
        go_upto_region 7 with (go_at_call 40; refine (HS.out _).mono ?_; rintro e w1 ⟨rfl, rfl⟩)
        have hb0 := Below.refl w1.heap.size w1
        have hS : Below w1.heap.size w1 w1.drew := (Below.refl _ _).drew
        refine wp_region_T 11 (by kernel_rfl) ?_
        refine WpT.take (i := 0) rfl (by kernel_rfl) (fun _ _ _ h => h) (.inl ⟨by rfl, fun w hSw => by clear hSw; go_simp; (try go_bits); (try rw [if_pos (by omega)]); (try with_reducible rfl)⟩) (hS) ?_
        try simp only [nrm]
        refine WpT.take (i := 1) rfl (by kernel_rfl) (fun _ _ _ h => h) (.inl ⟨by rfl, fun w hSw => by clear hSw; go_simp; (try go_bits); (try rw [if_pos (by omega)]); (try with_reducible rfl)⟩) (hS) ?_
        try simp only [nrm]
        refine WpT.take (i := 2) rfl (by kernel_rfl) (fun _ _ _ h => h) (.inl ⟨by rfl, fun w hSw => by clear hSw; go_simp; (try go_bits); (try rw [if_pos (by omega)]); (try with_reducible rfl)⟩) (hS) ?_
        try simp only [nrm]
        refine WpT.take (i := 3) rfl (by kernel_rfl) (fun _ _ _ h => h) (.inl ⟨by rfl, fun w hSw => by clear hSw; go_simp; (try go_bits); (try rw [if_pos (by omega)]); (try with_reducible rfl)⟩) (hS) ?_
        try simp only [nrm]
        refine WpT.take (i := 4) rfl (by kernel_rfl) (fun _ _ _ h => h) (.inl ⟨by rfl, fun w hSw => by clear hSw; go_simp; (try go_bits); (try rw [if_pos (by omega)]); (try with_reducible rfl)⟩) (hS) ?_
        try simp only [nrm]
        refine WpT.take (i := 6) rfl (by kernel_rfl) (fun _ _ _ h => h) (.inl ⟨by rfl, fun w hSw => by clear hSw; go_simp; (try go_bits); (try rw [if_pos (by omega)]); (try with_reducible rfl)⟩) (hS) ?_
        try simp only [nrm]
        refine WpT.take (i := 7) rfl (by kernel_rfl) (fun _ _ _ h => h) (.inl ⟨by rfl, fun w hSw => by clear hSw; go_simp; (try go_bits); (try rw [if_pos (by omega)]); (try with_reducible rfl)⟩) (hS) ?_
        try simp only [nrm]
        refine WpT.take (i := 8) rfl (by kernel_rfl) (fun _ _ _ h => h) (.inl ⟨by rfl, fun w hSw => by clear hSw; go_simp; (try go_bits); (try rw [if_pos (by omega)]); (try with_reducible rfl)⟩) (hS) ?_
        try simp only [nrm]
        refine WpT.one (i := 5) rfl (by kernel_rfl) (fun K hK => ?_)
        go_simp; refine (HI.out _ hS).mono ?_; rintro e w5 ⟨v5, rfl, hown5, hb5⟩; obtain ⟨A5, c5, rfl, h51, h52, hr5⟩ := hown5.form; clear hown5; replace hS := bstep hS hb5
        refine hK _ _ (hS) ?_; clear hK K; try simp only [nrm]
        refine WpT.one (i := 9) rfl (by kernel_rfl) (fun K hK => ?_)
        go_simp; refine (HRD.out _ hS).mono ?_; rintro e w6 ⟨rfl, hb6⟩; replace hS := bstep hS hb6; replace hr5 := hr5.below hb6
        refine hK _ _ (hS) ?_; clear hK K; try simp only [nrm]
        refine WpT.one (i := 10) rfl (by kernel_rfl) (fun K hK => ?_)
        go_simp; refine (with_any P X A5 P.length c5 _ HPL.out hr5).mono ?_; unfold DsIs; rintro e w7 ⟨v7, rfl, hown7, hb7⟩; replace hown7 := hown7.lower hS.size; replace hS := bstep hS hb7
        refine hK _ _ (hS) ?_; clear hK K; try simp only [nrm]
        refine WpT.tail (i := 11) rfl (by kernel_rfl) (by kernel_rfl) (fun K hK => ?_)
        go_simp; (try go_bits)
        refine hK _ _ ?_; clear hK K; try simp only [nrm]
        refine WpT.done (by kernel_rfl) ?_ _
        go_wp2_with fail; go_ret; exact ⟨_, rfl, hown7, hS⟩
      · have hx := Merk.csy_right nd em (l := l) (m := i) mk (by omega) (by omega) (by rw [hl]; exact hik)
        rw [hl] at hx
        have hpl := Merk.csy_len nd em _ (l.drop (Merk.split n)) (i - Merk.split n) false (Nat.le_refl _) (by omega) (by simp; omega)
        rw [List.length_drop] at hpl
        have HI := Lib.hid (fun (W : World) (hb : Below w.heap.size w W) => ih (l.drop (Merk.split n)) (i - Merk.split n) false (if c = Merk.split n then A else A.map (·.add (Merk.split n * 16))) (n - Merk.split n) (c - Merk.split n) W (by omega) (by omega) (by omega) (by omega) ((hr.below hb).drop (by omega) hnc) (by omega) (by omega) (hg.below hb))
        rw [hx]
        have hcast : ((i - Merk.split n : Nat) : Int) = (i : Int) - (Merk.split n : Int) := by omega
        rw [hcast] at HI
        have HPL : Hid ((Merk.csy nd em (l.drop (Merk.split n)) (i - Merk.split n) false).length ≤ 1000000) := Lib.hid (by omega)
        clear hx ih HRD hr hg hcm hl hcast
        clear hpl
        generalize Merk.root nd em (l.take (Merk.split n)) = X at *
        generalize Merk.csy nd em (l.drop (Merk.split n)) (i - Merk.split n) false = P at *
        generalize Merk.split n = k at *
        unfold DsIs at HI ⊢
        unfold DgIs at HRT
        have hik2 : ¬ (i : Int) ≤ (k : Int) := by omega
        have hsub : 0 ≤ (i : Int) - (k : Int) ∧ (i : Int) - (k : Int) ≤ 1000000 := by omega
        have HW : Hid (wrap64 ((i : Int) - (k : Int)) = (i : Int) - (k : Int) ∧ IntKind.i64.wrap ((i : Int) - (k : Int)) = (i : Int) - (k : Int)) := Lib.hid ⟨by unfold wrap64; omega, wrap_small _ (by omega) (by omega)⟩
        go_enter Tryd.func36, Tryd.ntmps36
        go_upto_region 8 with (go_at_call 40; refine (HS.out _).mono ?_; rintro e w1 ⟨rfl, rfl⟩)
        have hS : Below w1.heap.size w1 w1.drew := (Below.refl _ _).drew
        refine wp_region_T 12 (by kernel_rfl) ?_
        refine WpT.take (i := 0) rfl (by kernel_rfl) (fun _ _ _ h => h) (.inl ⟨by rfl, fun w hSw => by clear hSw; go_simp; (try go_bits); (try rw [if_pos (by omega)]); (try with_reducible rfl)⟩) (hS) ?_
        try simp only [nrm]
        refine WpT.take (i := 1) rfl (by kernel_rfl) (fun _ _ _ h => h) (.inl ⟨by rfl, fun w hSw => by clear hSw; go_simp; (try go_bits); (try rw [if_pos (by omega)]); (try with_reducible rfl)⟩) (hS) ?_
        try simp only [nrm]
        refine WpT.take (i := 2) rfl (by kernel_rfl) (fun _ _ _ h => h) (.inl ⟨by rfl, fun w hSw => by clear hSw; go_simp; (try go_bits); (try rw [if_pos (by omega)]); (try with_reducible rfl)⟩) (hS) ?_
        try simp only [nrm]
        refine WpT.take (i := 3) rfl (by kernel_rfl) (fun _ _ _ h => h) (.inl ⟨by rfl, fun w hSw => by clear hSw; go_simp; (try go_bits); (try rw [if_pos (by omega)]); (try with_reducible rfl)⟩) (hS) ?_
        try simp only [nrm]
        refine WpT.take (i := 4) rfl (by kernel_rfl) (fun _ _ _ h => h) (.inl ⟨by rfl, fun w hSw => by clear hSw; go_simp; (try go_bits); (try rw [if_pos (by omega)]); (try with_reducible rfl)⟩) (hS) ?_
        try simp only [nrm]
        refine WpT.take (i := 5) rfl (by kernel_rfl) (fun _ _ _ h => h) (.inl ⟨by rfl, fun w hSw => by clear hSw; go_simp; (try go_bits); (try rw [if_pos (by omega)]); (try with_reducible rfl)⟩) (hS) ?_
        try simp only [nrm]
        refine WpT.take (i := 7) rfl (by kernel_rfl) (fun _ _ _ h => h) (.inl ⟨by rfl, fun w hSw => by clear hSw; go_simp; (try go_bits); (try rw [if_pos (by omega)]); (try with_reducible rfl)⟩) (hS) ?_
        try simp only [nrm]
        refine WpT.take (i := 8) rfl (by kernel_rfl) (fun _ _ _ h => h) (.inl ⟨by rfl, fun w hSw => by clear hSw; go_simp; (try go_bits); (try rw [if_pos (by omega)]); (try with_reducible rfl)⟩) (hS) ?_
        try simp only [nrm]
        refine WpT.take (i := 9) rfl (by kernel_rfl) (fun _ _ _ h => h) (.inl ⟨by rfl, fun w hSw => by clear hSw; go_simp; (try go_bits); (try rw [if_pos (by omega)]); (try with_reducible rfl)⟩) (hS) ?_
        try simp only [nrm]
        refine WpT.one (i := 6) rfl (by kernel_rfl) (fun K hK => ?_)
        go_simp; (try simp only [HW.out.1, HW.out.2]); refine (HI.out _ hS).mono ?_; rintro e w5 ⟨v5, rfl, hown5, hb5⟩; obtain ⟨A5, c5, rfl, h51, h52, hr5⟩ := hown5.form; clear hown5; replace hS := bstep hS hb5
        refine hK _ _ (hS) ?_; clear hK K; try simp only [nrm]
        refine WpT.one (i := 10) rfl (by kernel_rfl) (fun K hK => ?_)
        go_simp; refine (HRT.out _ hS).mono ?_; rintro e w6 ⟨rfl, hb6⟩; replace hS := bstep hS hb6; replace hr5 := hr5.below hb6
        refine hK _ _ (hS) ?_; clear hK K; try simp only [nrm]
        refine WpT.one (i := 11) rfl (by kernel_rfl) (fun K hK => ?_)
        go_simp; refine (with_any P X A5 P.length c5 _ HPL.out hr5).mono ?_; unfold DsIs; rintro e w7 ⟨v7, rfl, hown7, hb7⟩; replace hown7 := hown7.lower hS.size; replace hS := bstep hS hb7
        refine hK _ _ (hS) ?_; clear hK K; try simp only [nrm]
        refine WpT.tail (i := 12) rfl (by kernel_rfl) (by kernel_rfl) (fun K hK => ?_)
        go_simp; (try go_bits)
        refine hK _ _ ?_; clear hK K; try simp only [nrm]
        refine WpT.done (by kernel_rfl) ?_ _
        go_wp2_with fail; go_ret; exact ⟨_, rfl, hown7, hS⟩
set_option maxRecDepth 20000 in
set_option maxHeartbeats 1000000 in
theorem refConsistency_bad (l : List Nat) (i : Int) (A : Option Addr) (n c : Nat) (w : World) (h : i < 0 ∨ (n : Int) < i) :
    Calls Tryd.prog 13 #[.slice A n c, .int .i64 i] w (PtIs ([], 1) w) := by
  have HB := Lib.hid (build_ptE 1)
  unfold PtIs
  by_cases h0 : i < 0
  · have d0 : decide (i < 0) = true := by simpa using h0
    go_enter Tryd.func13, Tryd.ntmps13
    go_wp2_with (first
      | ((with_reducible show wpList _ _ _ (⟨some 4, _, _, _, _, _⟩ :: _) _ _); refine wpList_new (cs := ptC (.slice none 0 0) 0) rfl rfl zeroPt ?_; intro w0 g0 hg0 q0 hb0 lt0; have HG0 := Lib.hid hg0; clear hg0)
      | ((with_reducible show wpList _ _ _ (⟨some 13, _, _, _, _, _⟩ :: _) _ _); refine wpList_build1 rfl rfl rfl HB.out ?_)
      | ((with_reducible show wpList _ _ _ (⟨none, _, _, _, _, _⟩ :: _) _ _); refine wpList_put (vs := ptC (.slice none 0 0) 1) rfl rfl rfl rfl q0 (by rfl) (by rw [sizePt]; rfl) (one_ptC _ _ _ _) ?_; intro w9 ht9 b9))
    exact ret_blk rfl rfl rfl b9 aggPt (by rw [sizePt]; rfl) ⟨_, rfl, OwnDs.nil _ _, hb0.trans (ht9.below _ (by have := HG0.out; omega))⟩
  · have d0 : decide (i < 0) = false := by simpa using h0
    have d1 : decide (i > (n : Int)) = true := by simp; omega
    go_enter Tryd.func13, Tryd.ntmps13
    go_wp2_with (first
      | ((with_reducible show wpList _ _ _ (⟨some 4, _, _, _, _, _⟩ :: _) _ _); refine wpList_new (cs := ptC (.slice none 0 0) 0) rfl rfl zeroPt ?_; intro w0 g0 hg0 q0 hb0 lt0; have HG0 := Lib.hid hg0; clear hg0)
      | ((with_reducible show wpList _ _ _ (⟨some 13, _, _, _, _, _⟩ :: _) _ _); refine wpList_build1 rfl rfl rfl HB.out ?_)
      | ((with_reducible show wpList _ _ _ (⟨none, _, _, _, _, _⟩ :: _) _ _); refine wpList_put (vs := ptC (.slice none 0 0) 1) rfl rfl rfl rfl q0 (by rfl) (by rw [sizePt]; rfl) (one_ptC _ _ _ _) ?_; intro w9 ht9 b9))
    exact ret_blk rfl rfl rfl b9 aggPt (by rw [sizePt]; rfl) ⟨_, rfl, OwnDs.nil _ _, hb0.trans (ht9.below _ (by have := HG0.out; omega))⟩
set_option maxRecDepth 20000 in
set_option maxHeartbeats 1000000 in
theorem refConsistency_any {nd : Nat → Nat → Nat} {em : Nat} (N : Nds nd em) (l : List Nat) (i : Int) (A : Option Addr) (n c : Nat) (w : World) (hn : n ≤ 1000000) (hr : RdD w A n l) (hnc : n ≤ c) (hcm : c ≤ maxLen) (hg : RCon w) :
    Calls Tryd.prog 13 #[.slice A n c, .int .i64 i] w (PtIs (csyR nd em l i) w) := by
  have hl := hr.len
  unfold csyR
  by_cases h : 0 ≤ i ∧ i ≤ l.length
  · rw [if_pos h]
    obtain ⟨k, rfl⟩ : ∃ k : Nat, i = k := ⟨i.toNat, by omega⟩
    have hk : k ≤ n := by omega
    have d0 : decide ((k : Int) < 0) = false := by simp
    have d1 : decide ((k : Int) > (n : Int)) = false := by simp; omega
    by_cases h0 : (k : Int) = 0 ∨ (k : Int) = l.length
    · rw [if_pos h0]
      have HB := Lib.hid build_pt0
      unfold PtIs
      clear hr hg
      by_cases h1 : k = 0
      · have e0 : ((k : Int) == 0) = true := by simp; omega
        go_enter Tryd.func13, Tryd.ntmps13
        go_wp2_with (first
          | ((with_reducible show wpList _ _ _ (⟨some 4, _, _, _, _, _⟩ :: _) _ _); refine wpList_new (cs := ptC (.slice none 0 0) 0) rfl rfl zeroPt ?_; intro w0 g0 hg0 q0 hb0 lt0; have HG0 := Lib.hid hg0; clear hg0)
          | ((with_reducible show wpList _ _ _ (⟨some 21, _, _, _, _, _⟩ :: _) _ _); refine wpList_build0 rfl rfl HB.out ?_)
          | ((with_reducible show wpList _ _ _ (⟨none, _, _, _, _, _⟩ :: _) _ _); refine wpList_put (vs := ptC (.slice none 0 0) 0) rfl rfl rfl rfl q0 (by rfl) (by rw [sizePt]; rfl) (one_ptC _ _ _ _) ?_; intro w9 ht9 b9))
        exact ret_blk rfl rfl rfl b9 aggPt (by rw [sizePt]; rfl) ⟨_, rfl, OwnDs.nil _ _, hb0.trans (ht9.below _ (by have := HG0.out; omega))⟩
      · have e0 : ((k : Int) == 0) = false := by simp; omega
        have e1 : ((k : Int) == n) = true := by simp; omega
        go_enter Tryd.func13, Tryd.ntmps13
        go_wp2_with (first
          | ((with_reducible show wpList _ _ _ (⟨some 4, _, _, _, _, _⟩ :: _) _ _); refine wpList_new (cs := ptC (.slice none 0 0) 0) rfl rfl zeroPt ?_; intro w0 g0 hg0 q0 hb0 lt0; have HG0 := Lib.hid hg0; clear hg0)
          | ((with_reducible show wpList _ _ _ (⟨some 21, _, _, _, _, _⟩ :: _) _ _); refine wpList_build0 rfl rfl HB.out ?_)
          | ((with_reducible show wpList _ _ _ (⟨none, _, _, _, _, _⟩ :: _) _ _); refine wpList_put (vs := ptC (.slice none 0 0) 0) rfl rfl rfl rfl q0 (by rfl) (by rw [sizePt]; rfl) (one_ptC _ _ _ _) ?_; intro w9 ht9 b9))
        exact ret_blk rfl rfl rfl b9 aggPt (by rw [sizePt]; rfl) ⟨_, rfl, OwnDs.nil _ _, hb0.trans (ht9.below _ (by have := HG0.out; omega))⟩
    · rw [if_neg h0]
      have HI := Lib.hid (fun (W : World) (hb : Below w.heap.size w W) => refCsy_any N n l k true A n c W (Nat.le_refl _) hn (by omega) hk (hr.below hb) hnc hcm (hg.below hb))
      rw [Int.toNat_natCast]
      have e0 : ((k : Int) == 0) = false := by simp; omega
      have e1 : ((k : Int) == n) = false := by simp; omega
      clear hr hg h hl h0
      generalize Merk.csy nd em l k true = P at *
      have HBL := Lib.hid build_ptL
      unfold DsIs at HI
      unfold PtIs
      go_enter Tryd.func13, Tryd.ntmps13
      go_upto_region 5 with ((with_reducible show wpList _ _ _ (⟨some 4, _, _, _, _, _⟩ :: _) _ _); refine wpList_new (cs := ptC (.slice none 0 0) 0) rfl rfl zeroPt ?_; intro w0 g0 hg0 q0 hb0 lt0; have HG0 := Lib.hid hg0; clear hg0)
      go_wp2_with fail
      refine (HI.out _ hb0).mono ?_
      rintro e w5 ⟨v5, rfl, hown5, hb5⟩
      obtain ⟨A5, c5, rfl, -, -, -⟩ := hown5.form
      have q5 := q0.below hb5
      have hB5 := HBL.out A5 P.length c5
      go_wp2_with (first
        | ((with_reducible show wpList _ _ _ (⟨some 26, _, _, _, _, _⟩ :: _) _ _); refine wpList_build1 rfl rfl rfl hB5 ?_)
        | ((with_reducible show wpList _ _ _ (⟨none, _, _, _, _, _⟩ :: _) _ _); refine wpList_put (vs := ptC (.slice A5 P.length c5) 0) rfl rfl rfl rfl q5 (by rfl) (by rw [sizePt]; rfl) (one_ptC _ _ _ _) ?_; intro w9 ht9 b9))
      exact ret_blk rfl rfl rfl b9 aggPt (by rw [sizePt]; rfl) ⟨_, rfl, ownsRow_lower (ht9.own hown5 (fun e => by have h1 := (World.ownsRow.lt hown5 _ e).1; have := HG0.out; have := lt0; omega)) hb0.size, (bstep hb0 hb5).trans (ht9.below _ (by have := HG0.out; omega))⟩
  · rw [if_neg h]
    exact refConsistency_bad l i A n c w (by omega)
end Go.Proofs.YtgggpnjnhhkmgaaDoor
