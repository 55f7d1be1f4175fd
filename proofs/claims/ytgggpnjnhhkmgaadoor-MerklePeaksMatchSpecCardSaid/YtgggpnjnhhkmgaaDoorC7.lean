/-
  These texts, joined.
  The reference's ones, Formed and Top. Conditions: at most 1000 tops; the tables of constants stand.
  The reference's Append. Conditions: at most 1000 tops; the tables of constants stand.
  The walk of MerklePeaksMatchSpec. Conditions: the tables of constants stand.
  From the row's reading of peaks to the walks' premises. Conditions: none.
  The law MerklePeaksMatchSpec: it returns true for every input, and its arguments read behind the call as before; the row and its tied card. Conditions: the tables start as the program's text lays them.
-/
import Derived.Test.YtgggpnjnhhkmgaaDoorB9
import Derived.Test.YtgggpnjnhhkmgaaDoorB10
namespace Go.Proofs.YtgggpnjnhhkmgaaDoor
set_option linter.unusedSimpArgs false
set_option linter.unusedVariables false
open Go.RowKit Exch Merk Go.Shelf
theorem Merk.ones_le (k : Nat) : ∀ n, n ≤ k → Merk.ones n ≤ n := by
  induction k with
  | zero => intro n h; obtain rfl : n = 0 := by omega
            rw [Merk.ones, if_pos rfl]; exact Nat.le_refl _
  | succ k ih =>
    intro n h
    rw [Merk.ones]
    split
    · omega
    · have := ih (n / 2) (by omega); omega
theorem Merk.ones_pos (k : Nat) : ∀ n, n ≤ k → 1 ≤ n → 1 ≤ Merk.ones n := by
  induction k with
  | zero => intro n h h1; omega
  | succ k ih =>
    intro n h h1
    rw [Merk.ones, if_neg (by omega)]
    by_cases h2 : n % 2 = 1
    · omega
    · have := ih (n / 2) (by omega) (by omega); omega
theorem refOnes_any (n : Nat) (w : World) (hn : n ≤ 1099511627776) :
    Calls Tryd.prog 73 #[.int .i64 (n : Int)] w fun e w' => e = .returned (.int .i64 ((Merk.ones n : Nat) : Int)) ∧ w = w' := by
  have HU : Hid (∀ m s : Nat, s + Merk.ones m = Merk.ones n → s ≤ n) := Lib.hid (fun m s h => by have := Merk.ones_le n n (Nat.le_refl _); omega)
  have HN : Hid (∀ m s : Nat, 0 < m → s + Merk.ones m = Merk.ones n → s + m % 2 + Merk.ones (m / 2) = Merk.ones n) := Lib.hid (fun m s hm h => by rw [Merk.ones, if_neg (by omega)] at h; omega)
  have HE : Hid (∀ m s : Nat, m = 0 → s + Merk.ones m = Merk.ones n → s = Merk.ones n) := Lib.hid (fun m s hm h => by rw [hm] at h; rw [Merk.ones, if_pos rfl] at h; omega)
  obtain ⟨R, hR⟩ : ∃ R, Merk.ones n = R := ⟨_, rfl⟩
  rw [hR] at HU HN HE ⊢
  have H0 : Hid (0 + Merk.ones n = R) := Lib.hid (by rw [hR]; exact Nat.zero_add _)
  clear hR
  go_enter Tryd.func73, Tryd.ntmps73
  go_wp2_with fail
  go_loopw [0, 3] (fun v0 v3 wr => ∃ m s : Nat, v0 = .int .i64 (m : Int) ∧ v3 = .int .i64 (s : Int) ∧ m ≤ n ∧ s ≤ n ∧ Hid (s + Merk.ones m = R) ∧ wr = w) (fun v0 _ _ => (intOf v0).toNat)
  case atStart => exact ⟨n, 0, rfl, rfl, Nat.le_refl _, Nat.zero_le _, H0, rfl⟩
  case round =>
    obtain ⟨m, s, rfl, rfl, hm, hs, hrs, rfl⟩ := hrel
    by_cases h0 : 0 < m
    · have dj : decide ((m : Int) > 0) = true := by rw [decide_eq_true_eq]; omega
      have hnx := Lib.hid (HN.out m s h0 hrs.out)
      have hsx := HU.out _ _ hnx.out
      have e1 : (m : Int) % 2 = ((m % 2 : Nat) : Int) := by omega
      have e2 : (m : Int) / 2 = ((m / 2 : Nat) : Int) := by omega
      have hm2 : m / 2 ≤ n := by omega
      have hm3 : m / 2 < m := by omega
      generalize m % 2 = b at *
      generalize m / 2 = d at *
      go_wp2_with fail
      exact ⟨⟨d, s + b, by go_num, by go_num, hm2, hsx, hnx, by first | rfl | trivial⟩, by simp [intOf]; omega⟩
    · have dj : decide ((m : Int) > 0) = false := by rw [decide_eq_false_iff_not]; omega
      have e := HE.out m s (by omega) hrs.out
      subst e
      go_wp2_with fail
      go_ret
      exact ⟨rfl, rfl⟩
set_option maxRecDepth 20000 in
set_option maxHeartbeats 1000000 in
theorem refFormed_any (s : Int) (A : Option Addr) (n c : Nat) (w : World) : Calls Tryd.prog 58 #[pkV s A n c] w fun e w' => e = .returned (.bool (formedB s n)) ∧ Below w.heap.size w w' := by
  obtain ⟨wa, hwa, hb0, q0⟩ : ∃ wa : World, wa = w.alloc (.cells (pkC s A n c) 51) ∧ Below w.heap.size w wa ∧ Blk wa w.heap.size 51 (pkC s A n c) :=
    ⟨_, rfl, (Below.refl w.heap.size w).alloc (Nat.le_refl _) _, Blk.new _ _ _⟩
  have c0 : wa.cell? ⟨w.heap.size, 0, none⟩ = some (.int .i64 s) := q0.cell 0
  have c1 : wa.cell? ⟨w.heap.size, 1, none⟩ = some (.slice A n c) := q0.cell 1
  have HWA := Lib.hid hwa
  clear hwa q0
  have hS : Below wa.heap.size wa wa.drew := (Below.refl _ _).drew
  by_cases h0 : 0 ≤ s
  · by_cases h1 : s ≤ 1099511627776
    · obtain ⟨k, rfl⟩ : ∃ k : Nat, s = k := ⟨s.toNat, by omega⟩
      have hk : k ≤ 1099511627776 := by omega
      have hC := Lib.hid (fun W => refOnes_any k W (by omega))
      have hf : formedB k n = decide (n = Merk.ones k) := by simp [formedB, h1]
      rw [hf]
      clear hf
      generalize Merk.ones k = R at *
      have g0 : decide ((k : Int) ≥ 0) = true := by simp
      have g1 : decide ((k : Int) ≤ 1099511627776) = true := by simp; omega
      have ge : ((n : Int) == (R : Int)) = decide (n = R) := by by_cases h : n = R <;> simp [h] <;> omega
      have HE := Lib.hid ge
      clear ge
      go_enter Tryd.func58, Tryd.ntmps58
      go_upto_region 1 with (fail)
      change Code.wp _ _ _ _ (w.alloc (.cells (pkC k A n c) 51))
      rw [← HWA.out]
      refine wp_region_T 17 (by kernel_rfl) ?_
      refine WpT.take (i := 0) rfl (by kernel_rfl) (fun _ _ _ h => h) (.inl ⟨by rfl, fun w hSw => by clear hSw; go_simp; (try go_bits); (try rw [if_pos (by omega)]); (try with_reducible rfl)⟩) (hS) ?_
      try simp only [nrm]
      refine WpT.take (i := 1) rfl (by kernel_rfl) (fun _ _ _ h => h) (yields_load rfl rfl rfl (by kernel_rfl) c0) (hS) ?_
      try simp only [nrm]
      refine WpT.take (i := 2) rfl (by kernel_rfl) (fun _ _ _ h => h) (.inl ⟨by rfl, fun w hSw => by clear hSw; go_simp; (try go_bits); (try rw [if_pos (by omega)]); (try with_reducible rfl)⟩) (hS) ?_
      try simp only [nrm]
      refine WpT.take (i := 3) rfl (by kernel_rfl) (fun _ _ _ h => h) (.inl ⟨by rfl, fun w hSw => by clear hSw; go_simp; (try go_bits); (try rw [if_pos (by omega)]); (try with_reducible rfl)⟩) (hS) ?_
      try simp only [nrm]
      refine WpT.take (i := 4) rfl (by kernel_rfl) (fun _ _ _ h => h) (.inl ⟨by rfl, fun w hSw => by clear hSw; go_simp; (try go_bits); (try rw [if_pos (by omega)]); (try with_reducible rfl)⟩) (hS) ?_
      try simp only [nrm]
      refine WpT.take (i := 5) rfl (by kernel_rfl) (fun _ _ _ h => h) (yields_loadW (by rfl) rfl rfl (by kernel_rfl) c0) (hS) ?_
      try simp only [nrm]
      refine WpT.take (i := 6) rfl (by kernel_rfl) (fun _ _ _ h => h) (.inl ⟨by rfl, fun w hSw => by clear hSw; go_simp; (try go_bits); (try rw [if_pos (by omega)]); (try with_reducible rfl)⟩) (hS) ?_
      try simp only [nrm]
      refine WpT.take (i := 7) rfl (by kernel_rfl) (fun _ _ _ h => h) (.inl ⟨by rfl, fun w hSw => by clear hSw; go_simp; (try go_bits); (try rw [if_pos (by omega)]); (try with_reducible rfl)⟩) (hS) ?_
      try simp only [nrm]
      refine WpT.take (i := 8) rfl (by kernel_rfl) (fun _ _ _ h => h) (.inl ⟨by rfl, fun w hSw => by clear hSw; go_simp; (try go_bits); (try rw [if_pos (by omega)]); (try with_reducible rfl)⟩) (hS) ?_
      try simp only [nrm]
      refine WpT.take (i := 9) rfl (by kernel_rfl) (fun _ _ _ h => h) (.inl ⟨by rfl, fun w hSw => by clear hSw; go_simp; (try go_bits); (try rw [if_pos (by omega)]); (try with_reducible rfl)⟩) (hS) ?_
      try simp only [nrm]
      refine WpT.take (i := 10) rfl (by kernel_rfl) (fun _ _ _ h => h) (yields_loadW (by rfl) rfl rfl (by kernel_rfl) c1) (hS) ?_
      try simp only [nrm]
      refine WpT.take (i := 11) rfl (by kernel_rfl) (fun _ _ _ h => h) (.inl ⟨by rfl, fun w hSw => by clear hSw; go_simp; (try go_bits); (try rw [if_pos (by omega)]); (try with_reducible rfl)⟩) (hS) ?_
      try simp only [nrm]
      refine WpT.take (i := 12) rfl (by kernel_rfl) (fun _ _ _ h => h) (.inl ⟨by rfl, fun w hSw => by clear hSw; go_simp; (try go_bits); (try rw [if_pos (by omega)]); (try with_reducible rfl)⟩) (hS) ?_
      try simp only [nrm]
      refine WpT.take (i := 13) rfl (by kernel_rfl) (fun _ _ _ h => h) (yields_loadW (by rfl) rfl rfl (by kernel_rfl) c0) (hS) ?_
      try simp only [nrm]
      refine WpT.one (i := 14) rfl (by kernel_rfl) (fun K hK => ?_)
      refine (if_pos (by rfl)).mpr ?_; go_simp; refine (hC.out _).mono ?_; rintro e w5 ⟨rfl, rfl⟩
      refine hK _ _ (hS) ?_; clear hK K; try simp only [nrm]
      refine WpT.take (i := 15) rfl (by kernel_rfl) (fun _ _ _ h => h) (.inl ⟨by rfl, fun w hSw => by clear hSw; go_simp; (try go_bits); (try rw [if_pos (by omega)]); (try with_reducible rfl)⟩) (hS) ?_
      try simp only [nrm]
      refine WpT.take (i := 16) rfl (by kernel_rfl) (fun _ _ _ h => h) (.inl ⟨by rfl, fun w hSw => by clear hSw; go_simp; (try go_bits); (try rw [if_pos (by omega)]); (try with_reducible rfl)⟩) (hS) ?_
      try simp only [nrm]
      refine WpT.tail (i := 17) rfl (by kernel_rfl) (by kernel_rfl) (fun K hK => ?_)
      go_simp; (try go_bits)
      refine hK _ _ ?_; clear hK K; try simp only [nrm]
      refine WpT.done (by kernel_rfl) ?_ _
      go_wp2_with fail; go_ret; exact ⟨by first | rfl | (simp [HE.out]), bstep hb0 hS⟩
    · have hf : formedB s n = false := by simp [formedB, h1]
      rw [hf]
      have g0 : decide (s ≥ 0) = true := by simp [h0]
      have g1 : decide (s ≤ 1099511627776) = false := by simp; omega
      go_enter Tryd.func58, Tryd.ntmps58
      go_upto_region 1 with (fail)
      change Code.wp _ _ _ _ (w.alloc (.cells (pkC s A n c) 51))
      rw [← HWA.out]
      refine wp_region_T 17 (by kernel_rfl) ?_
      refine WpT.take (i := 0) rfl (by kernel_rfl) (fun _ _ _ h => h) (.inl ⟨by rfl, fun w hSw => by clear hSw; go_simp; (try go_bits); (try rw [if_pos (by omega)]); (try with_reducible rfl)⟩) (hS) ?_
      try simp only [nrm]
      refine WpT.take (i := 1) rfl (by kernel_rfl) (fun _ _ _ h => h) (yields_load rfl rfl rfl (by kernel_rfl) c0) (hS) ?_
      try simp only [nrm]
      refine WpT.take (i := 2) rfl (by kernel_rfl) (fun _ _ _ h => h) (.inl ⟨by rfl, fun w hSw => by clear hSw; go_simp; (try go_bits); (try rw [if_pos (by omega)]); (try with_reducible rfl)⟩) (hS) ?_
      try simp only [nrm]
      refine WpT.take (i := 3) rfl (by kernel_rfl) (fun _ _ _ h => h) (.inl ⟨by rfl, fun w hSw => by clear hSw; go_simp; (try go_bits); (try rw [if_pos (by omega)]); (try with_reducible rfl)⟩) (hS) ?_
      try simp only [nrm]
      refine WpT.take (i := 4) rfl (by kernel_rfl) (fun _ _ _ h => h) (.inl ⟨by rfl, fun w hSw => by clear hSw; go_simp; (try go_bits); (try rw [if_pos (by omega)]); (try with_reducible rfl)⟩) (hS) ?_
      try simp only [nrm]
      refine WpT.take (i := 5) rfl (by kernel_rfl) (fun _ _ _ h => h) (yields_loadW (by rfl) rfl rfl (by kernel_rfl) c0) (hS) ?_
      try simp only [nrm]
      refine WpT.take (i := 6) rfl (by kernel_rfl) (fun _ _ _ h => h) (.inl ⟨by rfl, fun w hSw => by clear hSw; go_simp; (try go_bits); (try rw [if_pos (by omega)]); (try with_reducible rfl)⟩) (hS) ?_
      try simp only [nrm]
      refine WpT.take (i := 7) rfl (by kernel_rfl) (fun _ _ _ h => h) (.inl ⟨by rfl, fun w hSw => by clear hSw; go_simp; (try go_bits); (try rw [if_pos (by omega)]); (try with_reducible rfl)⟩) (hS) ?_
      try simp only [nrm]
      refine WpT.take (i := 8) rfl (by kernel_rfl) (fun _ _ _ h => h) (.inl ⟨by rfl, fun w hSw => by clear hSw; go_simp; (try go_bits); (try rw [if_pos (by omega)]); (try with_reducible rfl)⟩) (hS) ?_
      try simp only [nrm]
      refine WpT.take (i := 9) rfl (by kernel_rfl) (fun _ _ _ h => h) (.inr ⟨by rfl, rfl⟩) (hS) ?_
      try simp only [nrm]
      refine WpT.take (i := 10) rfl (by kernel_rfl) (fun _ _ _ h => h) (.inr ⟨by rfl, rfl⟩) (hS) ?_
      try simp only [nrm]
      refine WpT.take (i := 11) rfl (by kernel_rfl) (fun _ _ _ h => h) (.inr ⟨by rfl, rfl⟩) (hS) ?_
      try simp only [nrm]
      refine WpT.take (i := 12) rfl (by kernel_rfl) (fun _ _ _ h => h) (.inr ⟨by rfl, rfl⟩) (hS) ?_
      try simp only [nrm]
      refine WpT.take (i := 13) rfl (by kernel_rfl) (fun _ _ _ h => h) (.inr ⟨by rfl, rfl⟩) (hS) ?_
      try simp only [nrm]
      refine WpT.take (i := 14) rfl (by kernel_rfl) (fun _ _ _ h => h) (.inr ⟨by rfl, rfl⟩) (hS) ?_
      try simp only [nrm]
      refine WpT.take (i := 15) rfl (by kernel_rfl) (fun _ _ _ h => h) (.inr ⟨by rfl, rfl⟩) (hS) ?_
      try simp only [nrm]
      refine WpT.take (i := 16) rfl (by kernel_rfl) (fun _ _ _ h => h) (.inl ⟨by rfl, fun w hSw => by clear hSw; go_simp; (try go_bits); (try rw [if_pos (by omega)]); (try with_reducible rfl)⟩) (hS) ?_
      try simp only [nrm]
      refine WpT.tail (i := 17) rfl (by kernel_rfl) (by kernel_rfl) (fun K hK => ?_)
      go_simp; (try go_bits)
      refine hK _ _ ?_; clear hK K; try simp only [nrm]
      refine WpT.done (by kernel_rfl) ?_ _
      go_wp2_with fail; go_ret; exact ⟨rfl, bstep hb0 hS⟩
  · have hf : formedB s n = false := by simp [formedB, h0]
    rw [hf]
    have g0 : decide (s ≥ 0) = false := by simp; omega
    go_enter Tryd.func58, Tryd.ntmps58
    go_upto_region 1 with (fail)
    change Code.wp _ _ _ _ (w.alloc (.cells (pkC s A n c) 51))
    rw [← HWA.out]
    refine wp_region_T 17 (by kernel_rfl) ?_
    refine WpT.take (i := 0) rfl (by kernel_rfl) (fun _ _ _ h => h) (.inl ⟨by rfl, fun w hSw => by clear hSw; go_simp; (try go_bits); (try rw [if_pos (by omega)]); (try with_reducible rfl)⟩) (hS) ?_
    try simp only [nrm]
    refine WpT.take (i := 1) rfl (by kernel_rfl) (fun _ _ _ h => h) (yields_load rfl rfl rfl (by kernel_rfl) c0) (hS) ?_
    try simp only [nrm]
    refine WpT.take (i := 2) rfl (by kernel_rfl) (fun _ _ _ h => h) (.inl ⟨by rfl, fun w hSw => by clear hSw; go_simp; (try go_bits); (try rw [if_pos (by omega)]); (try with_reducible rfl)⟩) (hS) ?_
    try simp only [nrm]
    refine WpT.take (i := 3) rfl (by kernel_rfl) (fun _ _ _ h => h) (.inl ⟨by rfl, fun w hSw => by clear hSw; go_simp; (try go_bits); (try rw [if_pos (by omega)]); (try with_reducible rfl)⟩) (hS) ?_
    try simp only [nrm]
    refine WpT.take (i := 4) rfl (by kernel_rfl) (fun _ _ _ h => h) (.inr ⟨by rfl, rfl⟩) (hS) ?_
    try simp only [nrm]
    refine WpT.take (i := 5) rfl (by kernel_rfl) (fun _ _ _ h => h) (.inr ⟨by rfl, rfl⟩) (hS) ?_
    try simp only [nrm]
    refine WpT.take (i := 6) rfl (by kernel_rfl) (fun _ _ _ h => h) (.inr ⟨by rfl, rfl⟩) (hS) ?_
    try simp only [nrm]
    refine WpT.take (i := 7) rfl (by kernel_rfl) (fun _ _ _ h => h) (.inl ⟨by rfl, fun w hSw => by clear hSw; go_simp; (try go_bits); (try rw [if_pos (by omega)]); (try with_reducible rfl)⟩) (hS) ?_
    try simp only [nrm]
    refine WpT.take (i := 8) rfl (by kernel_rfl) (fun _ _ _ h => h) (.inl ⟨by rfl, fun w hSw => by clear hSw; go_simp; (try go_bits); (try rw [if_pos (by omega)]); (try with_reducible rfl)⟩) (hS) ?_
    try simp only [nrm]
    refine WpT.take (i := 9) rfl (by kernel_rfl) (fun _ _ _ h => h) (.inr ⟨by rfl, rfl⟩) (hS) ?_
    try simp only [nrm]
    refine WpT.take (i := 10) rfl (by kernel_rfl) (fun _ _ _ h => h) (.inr ⟨by rfl, rfl⟩) (hS) ?_
    try simp only [nrm]
    refine WpT.take (i := 11) rfl (by kernel_rfl) (fun _ _ _ h => h) (.inr ⟨by rfl, rfl⟩) (hS) ?_
    try simp only [nrm]
    refine WpT.take (i := 12) rfl (by kernel_rfl) (fun _ _ _ h => h) (.inr ⟨by rfl, rfl⟩) (hS) ?_
    try simp only [nrm]
    refine WpT.take (i := 13) rfl (by kernel_rfl) (fun _ _ _ h => h) (.inr ⟨by rfl, rfl⟩) (hS) ?_
    try simp only [nrm]
    refine WpT.take (i := 14) rfl (by kernel_rfl) (fun _ _ _ h => h) (.inr ⟨by rfl, rfl⟩) (hS) ?_
    try simp only [nrm]
    refine WpT.take (i := 15) rfl (by kernel_rfl) (fun _ _ _ h => h) (.inr ⟨by rfl, rfl⟩) (hS) ?_
    try simp only [nrm]
    refine WpT.take (i := 16) rfl (by kernel_rfl) (fun _ _ _ h => h) (.inl ⟨by rfl, fun w hSw => by clear hSw; go_simp; (try go_bits); (try rw [if_pos (by omega)]); (try with_reducible rfl)⟩) (hS) ?_
    try simp only [nrm]
    refine WpT.tail (i := 17) rfl (by kernel_rfl) (by kernel_rfl) (fun K hK => ?_)
    go_simp; (try go_bits)
    refine hK _ _ ?_; clear hK K; try simp only [nrm]
    refine WpT.done (by kernel_rfl) ?_ _
    go_wp2_with fail; go_ret; exact ⟨rfl, bstep hb0 hS⟩
/-- A root, or an error, as a row. -/
abbrev tdC (d : Nat) (e : Int) : Array Value := (bv (dg d) ++ [Value.int .i64 e]).toArray
theorem tdC_size (d : Nat) (e : Int) : (tdC d e).size = 17 := by
  show ((bv (dg d) ++ [Value.int .i64 e]).toArray).size = 17
  rw [List.size_toArray, List.length_append, bv_dg_len]; rfl
theorem zeroTd (W : World) : (zeroValue 60).run Tryd.prog W = .ok (.agg (tdC 0 0)) W := by kernel_rfl
theorem aggTd : (Tryd.prog.underlying 60).map isAggDesc = some true := by kernel_rfl
theorem sizeTd : (Tryd.prog.info? 60).map (·.size) = some 17 := by kernel_rfl
theorem build_td (d : Nat) (W : World) : (Instr.build 60 #[(0, dgV d)]).run Tryd.prog W = .ok (.agg (tdC d 0)) W := by kernel_rfl
theorem build_tdE (W : World) : (Instr.build 60 #[(1, .int .i64 3)]).run Tryd.prog W = .ok (.agg (tdC 0 3)) W := by kernel_rfl
theorem one_tdC (d : Nat) (e : Int) : (tdC d e).all (·.oneCell') = true := by
  have := all_bv (dg d)
  simp only [tdC, List.all_toArray, List.all_append] at this ⊢
  rw [Bool.and_eq_true]
  exact ⟨by simpa using this, by simp [Value.oneCell']⟩
theorem topN_drop (nd : Nat → Nat → Nat) (em : Nat) (tl : List Nat) (q : Nat) (h : q + 1 < tl.length) : topN nd em (tl.drop q) = nd (tl[q]'(by omega)) (topN nd em (tl.drop (q + 1))) := by
  rw [List.drop_eq_getElem_cons (show q < tl.length by omega), topN_cons nd em _ _ (by intro e; have := congrArg List.length e; rw [List.length_drop, List.length_nil] at this; omega)]
set_option maxRecDepth 100000 in
set_option maxHeartbeats 2000000 in
theorem refTop_any {nd : Nat → Nat → Nat} {em : Nat} (N : Nds nd em) (s : Int) (A : Option Addr) (m c : Nat) (tl : List Nat) (w : World) (hm : m ≤ 1000) (hr : RdD w A m tl) (hmc : m ≤ c) (hcm : c ≤ maxLen) (hg : RCon w) :
    Calls Tryd.prog 31 #[pkV s A m c] w fun e w' => e = .returned (.agg (tdC (topR nd em s tl).1 (topR nd em s tl).2)) ∧ Below w.heap.size w w' := by
  obtain ⟨wa, hwa, hb0, q1, q2⟩ : ∃ wa : World, wa = (w.alloc (.cells (pkC s A m c) 51)).alloc (.cells (tdC 0 0) 60) ∧ Below w.heap.size w wa ∧ Blk wa w.heap.size 51 (pkC s A m c) ∧ Blk wa (w.heap.size + 1) 60 (tdC 0 0) :=
    ⟨_, rfl, ((Below.refl w.heap.size w).alloc (Nat.le_refl _) _).alloc (by simp) _, (Blk.new _ _ _).alloc _, Blk.new2 _ _ _ _⟩
  have HF := Lib.hid (refFormed_any s A m c wa)
  have HWA := Lib.hid hwa
  have hll := hr.len
  clear hwa
  unfold topR
  rw [hll]
  cases hf : formedB s m with
  | false =>
    rw [hf] at HF
    have HB := Lib.hid build_tdE
    rw [if_neg (by simp)]
    clear hf hr hg N hll
    go_enter Tryd.func31, Tryd.ntmps31
    go_upto_region 1 with (fail)
    change Code.wp _ _ _ _ ((w.alloc (.cells (pkC s A m c) 51)).alloc (.cells (tdC 0 0) 60))
    rw [← HWA.out]
    go_wp2_with ((with_reducible show wpList _ _ _ (⟨some 6, _, _, _, _, _⟩ :: _) _ _); refine wpList_loadRow rfl rfl rfl q1 aggPk (by rw [sizePk]; rfl) ?_)
    refine HF.out.mono ?_
    rintro e w1 ⟨rfl, hb1⟩
    replace q2 := q2.below hb1
    go_wp2_with (first
      | ((with_reducible show wpList _ _ _ (⟨some 10, _, _, _, _, _⟩ :: _) _ _); refine wpList_build1 rfl rfl rfl HB.out ?_)
      | ((with_reducible show wpList _ _ _ (⟨none, _, _, _, _, _⟩ :: _) _ _); refine wpList_put (vs := tdC 0 3) rfl rfl rfl rfl q2 rfl (by rw [sizeTd, tdC_size]) (one_tdC _ _) ?_; intro w9 ht9 b9))
    exact ret_blk rfl rfl rfl b9 aggTd (by rw [sizeTd, tdC_size]) ⟨rfl, (bstep hb0 hb1).trans (ht9.below _ (by omega))⟩
  | true =>
    rw [hf] at HF
    rw [if_pos rfl]
    obtain ⟨k, hk1, hk2, hk3⟩ := formed_nat hf
    subst hk1
    have HB := Lib.hid build_td
    by_cases h0 : k = 0
    · subst h0
      have hm0 : m = 0 := by rw [hk3, Merk.ones, if_pos rfl]
      subst hm0
      have htl : tl = [] := List.eq_nil_of_length_eq_zero hll
      subst htl
      have HE := Lib.hid N.refEmpty
      have HG := Lib.hid hg
      show Calls _ _ _ _ fun e w' => e = .returned (.agg (tdC em 0)) ∧ Below w.heap.size w w'
      clear hf hk2 hk3 hll hr hg
      go_enter Tryd.func31, Tryd.ntmps31
      go_upto_region 1 with (fail)
      change Code.wp _ _ _ _ ((w.alloc (.cells (pkC 0 A 0 c) 51)).alloc (.cells (tdC 0 0) 60))
      rw [show w.alloc (.cells (pkC 0 A 0 c) 51) = w.alloc (.cells (pkC ((0 : Nat) : Int) A 0 c) 51) from rfl, ← HWA.out]
      go_wp2_with ((with_reducible show wpList _ _ _ (⟨some 6, _, _, _, _, _⟩ :: _) _ _); refine wpList_loadRow rfl rfl rfl q1 aggPk (by rw [sizePk]; rfl) ?_)
      refine HF.out.mono ?_
      rintro e w1 ⟨rfl, hb1⟩
      replace q1 := q1.below hb1
      replace q2 := q2.below hb1
      have c0 := q1.cell 0
      simp only [List.getElem?_toArray, List.getElem?_cons_zero, List.getElem?_cons_succ] at c0
      go_wp2_with fail
      refine (HE.out _ (HG.out.below (bstep hb0 hb1))).mono ?_
      rintro e w2 ⟨rfl, hb2⟩
      replace q2 := q2.below hb2
      go_wp2_with (first
        | ((with_reducible show wpList _ _ _ (⟨some 15, _, _, _, _, _⟩ :: _) _ _); refine wpList_build1 rfl rfl rfl (HB.out em) ?_)
        | ((with_reducible show wpList _ _ _ (⟨none, _, _, _, _, _⟩ :: _) _ _); refine wpList_put (vs := tdC em 0) rfl rfl rfl rfl q2 rfl (by rw [sizeTd, tdC_size]) (one_tdC _ _) ?_; intro w9 ht9 b9))
      exact ret_blk rfl rfl rfl b9 aggTd (by rw [sizeTd, tdC_size]) ⟨rfl, (bstep (bstep hb0 hb1) hb2).trans (ht9.below _ (by omega))⟩
    · have hm1 : 1 ≤ m := by rw [hk3]; exact Merk.ones_pos k k (Nat.le_refl _) (by omega)
      have HN := Lib.hid N.refNode
      have HG := Lib.hid (fun W (h : Below w.heap.size w W) => hg.below h)
      have HR := Lib.hid (fun W (h : Below w.heap.size w W) => hr.below h)
      have HLN := Lib.hid hll
      have HTD := Lib.hid (topN_drop nd em tl)
      have HTX : Hid (topN nd em tl = topN nd em (tl.drop 0)) := Lib.hid (by rw [List.drop_zero])
      obtain ⟨j, hj⟩ : ∃ j, m = j + 1 := ⟨m - 1, by omega⟩
      obtain ⟨x, hx⟩ : ∃ x, x = tl[j]'(by omega) := ⟨_, rfl⟩
      have HTJ : Hid (topN nd em (tl.drop j) = x) := Lib.hid (by rw [List.drop_eq_getElem_cons (show j < tl.length by omega), ← hx, List.drop_of_length_le (by omega)]; rfl)
      have HX : Hid (∀ W, Below w.heap.size w W → ∃ ad, A = some ad ∧ ∀ i u, (bv (dg x))[i]? = some u → W.cell? ((ad.add (j * 16)).add i) = some u) := Lib.hid (fun W h => by rw [hx]; exact (hr.below h).elem (by omega))
      have HJ := Lib.hid hj
      have e1 : (m : Int) - 1 = (j : Int) := by omega
      have e2 : 0 ≤ (j : Int) ∧ (j : Int) < (m : Int) := by omega
      have e3 : ((k : Int) == 0) = false := by simp; omega
      have hcm2 : c ≤ 9223372036854775807 := hcm
      rw [HTX.out]
      clear HTX hf hk3 hll hr hg hj hx h0
      generalize hTP : (fun q => topN nd em (tl.drop q)) = TP
      have eTP : ∀ q, topN nd em (tl.drop q) = TP q := fun q => by rw [← hTP]
      simp only [eTP] at HTD HTJ ⊢
      clear hTP eTP
      go_enter Tryd.func31, Tryd.ntmps31
      go_upto_region 1 with (fail)
      change Code.wp _ _ _ _ ((w.alloc (.cells (pkC k A m c) 51)).alloc (.cells (tdC 0 0) 60))
      rw [← HWA.out]
      go_wp2_with ((with_reducible show wpList _ _ _ (⟨some 6, _, _, _, _, _⟩ :: _) _ _); refine wpList_loadRow rfl rfl rfl q1 aggPk (by rw [sizePk]; rfl) ?_)
      refine HF.out.mono ?_
      rintro e w1 ⟨rfl, hb1⟩
      replace q1 := q1.below hb1
      replace q2 := q2.below hb1
      replace hb0 := bstep hb0 hb1
      have c0 := q1.cell 0
      have c1 := q1.cell 1
      simp only [List.getElem?_toArray, List.getElem?_cons_zero, List.getElem?_cons_succ] at c0 c1
      obtain ⟨ad, hA, hcx⟩ := HX.out _ hb0
      subst hA
      clear hb1
      have lt2 := q2.lt
      go_wp2_with (first
        | ((with_reducible show wpList _ _ _ (⟨some 23, _, _, _, _, _⟩ :: _) _ _); refine wpList_loadK (us := bv (dg x)) rfl rfl rfl aggDg (by rw [sizeDg, bv_dg_len]) hcx ?_)
        | ((with_reducible show wpList _ _ _ (⟨some 4, _, _, _, _, _⟩ :: _) _ _); refine wpList_newDg (n := x) rfl rfl rfl rfl (fun _ => rfl) (fun _ => rfl) ?_; intro w4 g4 hg4 b4 hb4; replace hb0 := bstep hb0 hb4; have q14 := q1.below hb4; replace q2 := q2.below hb4; have c14 := q14.cell 1; simp only [List.getElem?_toArray, List.getElem?_cons_zero, List.getElem?_cons_succ] at c14))
      have hne : w.heap.size + 1 < g4 := by omega
      have HQ1 := Lib.hid q14
      have HQ2 := Lib.hid q2
      have HB0 := Lib.hid hb0
      rw [← HTJ.out] at b4
      clear q1 q14 q2 hb0 hb4 c0 c1 c14 hcx lt2 hg4
      go_loopw [5] (fun v5 wr => ∃ (i : Int) (q : Nat), v5 = .int .i64 i ∧ Hid (i + 1 = q) ∧ -1 ≤ i ∧ i ≤ 1000 ∧ Hid (q + 1 ≤ m) ∧ Blk wr g4 31 (dgC (TP q)) ∧ Below g4 w4 wr) (fun v5 _ => (intOf v5 + 1).toNat)
      case atStart => exact ⟨(m : Int) - 2, j, by rfl, Lib.hid (by omega), by omega, by omega, Lib.hid (by have := HJ.out; omega), b4, Below.refl _ _⟩
      case round =>
        clear b4
        obtain ⟨i, q, rfl, hiq, hi1, hi2, hq, b4, hbl⟩ := hrel
        have q1 : Blk wr w.heap.size 51 (pkC (k : Int) (some ad) m c) := (hbl.block _ (by omega)).trans HQ1.out
        have q2 : Blk wr (w.heap.size + 1) 60 (tdC 0 0) := (hbl.block _ (by omega)).trans HQ2.out
        have hbw : Below w.heap.size w wr := HB0.out.trans (hbl.mono (by omega))
        by_cases h0 : 0 ≤ i
        · have dj : decide (i ≥ 0) = true := by rw [decide_eq_true_eq]; omega
          obtain ⟨p, rfl⟩ : ∃ p : Nat, i = p := ⟨i.toNat, by omega⟩
          have hpm : p + 1 < m := by have := hiq.out; have := hq.out; omega
          have hpl : p + 1 < tl.length := by rw [HLN.out]; exact hpm
          have hix : 0 ≤ (p : Int) ∧ (p : Int) < (m : Int) := by omega
          have hT := HTD.out p hpl
          have eq : q = p + 1 := by have := hiq.out; omega
          subst eq
          obtain ⟨ad2, hA, hce⟩ := (HR.out _ hbw).elem (i := p) (by omega)
          injection hA with hA
          subst hA
          have HT := Lib.hid hT
          clear hT h0 hi1 hi2
          generalize tl[p]'(by omega) = y at *
          have HNW := Lib.hid (fun W (h : Below wr.heap.size wr W) => HN.out y (TP (p + 1)) W (HG.out _ (bstep hbw h)))
          rw [← HT.out] at HNW
          have c1 := q1.cell 1
          simp only [List.getElem?_toArray, List.getElem?_cons_zero, List.getElem?_cons_succ] at c1
          generalize TP (p + 1) = D at *
          clear hpl HT
          go_upto_region 10 with fail
          have hS : Below wr.heap.size wr wr.drew := (Below.refl _ _).drew
          refine wp_region_T 7 (by kernel_rfl) ?_
          refine WpT.take (i := 0) rfl (by kernel_rfl) (fun _ _ _ h => h) (.inl ⟨by rfl, fun w hSw => by clear hSw; go_simp; (try go_bits); (try rw [if_pos (by omega)]); (try with_reducible rfl)⟩) (hS) ?_
          try simp only [nrm]
          refine WpT.take (i := 1) rfl (by kernel_rfl) (fun _ _ _ h => h) (yields_load rfl rfl rfl (by kernel_rfl) c1) (hS) ?_
          try simp only [nrm]
          refine WpT.take (i := 2) rfl (by kernel_rfl) (fun _ _ _ h => h) (.inl ⟨by rfl, fun w hSw => by clear hSw; go_simp; (try go_bits); (try rw [if_pos (by omega)]); (try with_reducible rfl)⟩) (hS) ?_
          try simp only [nrm]
          refine WpT.take (i := 3) rfl (by kernel_rfl) (fun _ _ _ h => h) (.inl ⟨by rfl, fun w hSw => by clear hSw; go_simp; (try go_bits); (try rw [if_pos (by omega)]); (try with_reducible rfl)⟩) (hS) ?_
          try simp only [nrm]
          refine WpT.take (i := 4) rfl (by kernel_rfl) (fun _ _ _ h => h) (yields_loadK (us := bv (dg y)) rfl rfl rfl aggDg (by rw [sizeDg, bv_dg_len]) hce) (hS) ?_
          try simp only [nrm]
          refine WpT.take (i := 5) rfl (by kernel_rfl) (fun _ _ _ h => h) (yields_blk rfl rfl rfl aggDg (by rw [sizeDg, dgC_size]) b4) (hS) ?_
          try simp only [nrm]
          refine WpT.one (i := 6) rfl (by kernel_rfl) (fun K hK => ?_)
          go_simp; refine (HNW.out _ hS).mono ?_; rintro e w5 ⟨rfl, hb5⟩; have hS5 := bstep hS hb5
          refine hK _ _ (hS5) ?_; clear hK K; try simp only [nrm]
          refine WpT.tail (i := 7) rfl (by kernel_rfl) (by kernel_rfl) (fun K hK => ?_)
          refine wp_put (vs := dgC (TP p)) rfl (by rfl) (by rfl) (b4.below hS5) rfl (by rw [sizeDg, dgC_size]) (one_dgC _) ?_; intro w9 ht9 b9
          refine hK _ _ ?_; clear hK K; try simp only [nrm]
          refine WpT.done (by kernel_rfl) ?_ _
          skip
          have hbx : Below g4 w4 w9 := (hbl.trans (hS5.mono (by have := b4.lt; omega))).trans (ht9.below _ (Nat.le_refl _))
          clear hS hS5 hb5 c1 hce HNW b4 hbl q1 q2 hbw ht9
          go_wp2_with fail
          exact ⟨⟨(p : Int) - 1, p, by go_num, Lib.hid (by omega), by omega, by omega, Lib.hid (by omega), b9, hbx⟩, by first | (simp [intOf]; done) | (simp [intOf]; omega)⟩
        · have dj : decide (i ≥ 0) = false := by rw [decide_eq_false_iff_not]; omega
          have eq : q = 0 := by have := hiq.out; omega
          subst eq
          clear hiq h0
          go_wp2_with (first
            | ((with_reducible show wpList _ _ _ (⟨some 39, _, _, _, _, _⟩ :: _) _ _); refine wpList_loadRow rfl rfl rfl b4 aggDg (by rw [sizeDg, dgC_size]) ?_)
            | ((with_reducible show wpList _ _ _ (⟨some 40, _, _, _, _, _⟩ :: _) _ _); refine wpList_build1 rfl rfl rfl (HB.out (TP 0)) ?_)
            | ((with_reducible show wpList _ _ _ (⟨none, _, _, _, _, _⟩ :: _) _ _); refine wpList_put (vs := tdC (TP 0) 0) rfl rfl rfl rfl q2 rfl (by rw [sizeTd, tdC_size]) (one_tdC _ _) ?_; intro w9 ht9 b9))
          exact ret_blk rfl rfl rfl b9 aggTd (by rw [sizeTd, tdC_size]) ⟨rfl, hbw.trans (ht9.below _ (by omega))⟩
end Go.Proofs.YtgggpnjnhhkmgaaDoor
namespace Go.Proofs.YtgggpnjnhhkmgaaDoor
set_option linter.unusedSimpArgs false
set_option linter.unusedVariables false
open Go.RowKit Exch Merk Go.Shelf
/-- Peaks, or an error, as a row. -/
abbrev grC (s : Int) (A : Option Addr) (n c : Nat) (e : Int) : Array Value := #[.int .i64 s, .slice A n c, .int .i64 e]
theorem zeroGr (W : World) : (zeroValue 57).run Tryd.prog W = .ok (.agg (grC 0 none 0 0 0)) W := by kernel_rfl
theorem aggGr : (Tryd.prog.underlying 57).map isAggDesc = some true := by kernel_rfl
theorem sizeGr : (Tryd.prog.info? 57).map (·.size) = some 3 := by kernel_rfl
theorem build_gr (s : Int) (A : Option Addr) (n c : Nat) (W : World) : (Instr.build 57 #[(0, pkV s A n c)]).run Tryd.prog W = .ok (.agg (grC s A n c 0)) W := by kernel_rfl
theorem build_grE (e : Int) (W : World) : (Instr.build 57 #[(1, .int .i64 e)]).run Tryd.prog W = .ok (.agg (grC 0 none 0 0 e)) W := by kernel_rfl
theorem one_grC (s : Int) (A : Option Addr) (n c : Nat) (e : Int) : (grC s A n c e).all (·.oneCell') = true := by simp [grC, Value.oneCell']
theorem yields_build1 {P : Program} {ops : Array Oper} {S : World → Prop} {o : Oper} {a : Act} {T : TypeId} {i : Nat} {x : Operand} {vx v : Value} (ho : o.op = .build T #[(i, x)]) (hgd : o.guard = none) (hx : a.eval x = vx) (h : ∀ W, (Instr.build T #[(i, vx)]).run P W = .ok v W) : YieldsIf P ops S o v a := by
  refine .inl ⟨by simp [Region.wanted, hgd], fun w hS => ?_⟩
  unfold execOp
  simp only [ho, List.map_toArray, List.map_cons, List.map_nil, hx, h, Sem.run_bind, Result.andThen_ok, Sem.run_pure]
theorem grow_step (nd : Nat → Nat → Nat) (L : List Nat) (x n T : Nat) (hn : n % 2 = 1) (h : t1 n ≤ L.length + 1) : grow nd (L ++ [x]) n T = grow nd L (n / 2) (nd x T) := by
  have e : t1 n = 1 + t1 (n / 2) := by rw [t1, if_pos hn]
  unfold grow
  have e2 : (L ++ [x]).length - t1 n = L.length - t1 (n / 2) := by rw [List.length_append, e]; simp; omega
  rw [e2, List.take_append_of_le_length (by omega), List.drop_append_of_le_length (by omega), List.foldr_append]
  rfl
theorem grow_end (nd : Nat → Nat → Nat) (L : List Nat) (n T : Nat) (hn : n % 2 ≠ 1) : grow nd L n T = L ++ [T] := by
  have e : t1 n = 0 := by rw [t1, if_neg hn]
  unfold grow
  rw [e, Nat.sub_zero, List.take_of_length_le (Nat.le_refl _), List.drop_of_length_le (Nat.le_refl _)]
  rfl
def RgIs (p : Int × List Nat × Int) (w : World) (e : Ending) (w' : World) : Prop := ∃ A n c, e = .returned (.agg (grC p.1 A n c p.2.2)) ∧ OwnDs w' w.heap.size (.slice A n c) p.2.1 ∧ Below w.heap.size w w'
theorem OwnDs.formN {w : World} {B : Nat} {v : Value} {l : List Nat} (h : OwnDs w B v l) {n : Nat} (hn : l.length = n) : ∃ A c, v = .slice A n c ∧ n ≤ c ∧ c ≤ maxLen ∧ RdD w A n l := by
  subst hn; exact h.form
theorem OwnDs.rdN {w : World} {B : Nat} {A : Option Addr} {n c : Nat} {l : List Nat} (h : OwnDs w B (.slice A n c) l) (hn : l.length = n) : RdD w A n l := by
  obtain ⟨A', c', e, -, -, r⟩ := h.formN hn
  injection e with e1 e2 e3
  subst e1; exact r
theorem own_gtB {w : World} {g B : Nat} {c : Nat} {l : List Nat} (h : OwnDs w B (.slice (some ⟨g, 0, none⟩) 0 c) l) : B < w.heap.size := by
  have := World.ownsRow.lt h g rfl; omega
theorem grBox (w : World) (s : Int) (A : Option Addr) (m c leaf : Nat) : ∃ wa : World, wa = ((w.alloc (.cells (pkC s A m c) 51)).alloc (.cells (dgC leaf) 31)).alloc (.cells (grC 0 none 0 0 0) 57) ∧ Below w.heap.size w wa ∧
    Blk wa w.heap.size 51 (pkC s A m c) ∧ Blk wa (w.heap.size + 1) 31 (dgC leaf) ∧ Blk wa (w.heap.size + 1 + 1) 57 (grC 0 none 0 0 0) := by
  refine ⟨_, rfl, (((Below.refl w.heap.size w).alloc (Nat.le_refl _) _).alloc (by simp) _).alloc (by simp; omega) _, ((Blk.new _ _ _).alloc _).alloc _, (Blk.new2 _ _ _ _).alloc _, ?_⟩
  have := Blk.new ((w.alloc (.cells (pkC s A m c) 51)).alloc (.cells (dgC leaf) 31)) 57 (grC 0 none 0 0 0)
  simpa using this
set_option maxRecDepth 100000 in
set_option maxHeartbeats 4000000 in
theorem refAppend_any {nd : Nat → Nat → Nat} {em : Nat} (N : Nds nd em) (s : Int) (leaf : Nat) (A : Option Addr) (m c : Nat) (tl : List Nat) (w : World) (hm : m ≤ 1000) (hr : RdD w A m tl) (hmc : m ≤ c) (hcm : c ≤ maxLen) (hg : RCon w) :
    Calls Tryd.prog 30 #[pkV s A m c, dgV leaf] w (RgIs (appendR nd s tl leaf) w) := by
  obtain ⟨wa, hwa, hb0, q1, q2, q3⟩ := grBox w s A m c leaf
  have HF := Lib.hid (refFormed_any s A m c wa)
  have HWA := Lib.hid hwa
  have hll := hr.len
  have lt3 := q3.lt
  clear hwa
  unfold appendR
  rw [hll]
  have HBE := Lib.hid build_grE
  cases hf : formedB s m with
  | false =>
    rw [hf] at HF
    rw [if_neg (by simp)]
    unfold RgIs
    clear hf hr hg N hll
    go_enter Tryd.func30, Tryd.ntmps30
    go_upto_region 1 with (fail)
    change Code.wp _ _ _ _ (((w.alloc (.cells (pkC s A m c) 51)).alloc (.cells (dgC leaf) 31)).alloc (.cells (grC 0 none 0 0 0) 57))
    rw [← HWA.out]
    go_wp2_with ((with_reducible show wpList _ _ _ (⟨some 9, _, _, _, _, _⟩ :: _) _ _); refine wpList_loadRow rfl rfl rfl q1 aggPk (by rw [sizePk]; rfl) ?_)
    refine HF.out.mono ?_
    rintro e w1 ⟨rfl, hb1⟩
    replace q3 := q3.below hb1
    have hB3 := HBE.out 3
    go_wp2_with (first
      | ((with_reducible show wpList _ _ _ (⟨some 13, _, _, _, _, _⟩ :: _) _ _); refine wpList_build1 rfl rfl rfl hB3 ?_)
      | ((with_reducible show wpList _ _ _ (⟨none, _, _, _, _, _⟩ :: _) _ _); refine wpList_put (vs := grC 0 none 0 0 3) rfl rfl rfl rfl q3 rfl (by rw [sizeGr]; rfl) (one_grC _ _ _ _ _) ?_; intro w9 ht9 b9))
    exact ret_blk rfl rfl rfl b9 aggGr (by rw [sizeGr]; rfl) ⟨_, _, _, rfl, OwnDs.nil _ _, (bstep hb0 hb1).trans (ht9.below _ (by omega))⟩
  | true =>
    rw [hf] at HF
    rw [if_pos rfl]
    obtain ⟨k, hk1, hk2, hk3⟩ := formed_nat hf
    subst hk1
    by_cases h0 : (k : Int) = 1099511627776
    · rw [if_pos h0]
      have d0 : ((k : Int) == 1099511627776) = true := by simp [h0]
      unfold RgIs
      clear hf hr hg N hll h0 hk3
      go_enter Tryd.func30, Tryd.ntmps30
      go_upto_region 1 with (fail)
      change Code.wp _ _ _ _ (((w.alloc (.cells (pkC k A m c) 51)).alloc (.cells (dgC leaf) 31)).alloc (.cells (grC 0 none 0 0 0) 57))
      rw [← HWA.out]
      go_wp2_with ((with_reducible show wpList _ _ _ (⟨some 9, _, _, _, _, _⟩ :: _) _ _); refine wpList_loadRow rfl rfl rfl q1 aggPk (by rw [sizePk]; rfl) ?_)
      refine HF.out.mono ?_
      rintro e w1 ⟨rfl, hb1⟩
      replace q3 := q3.below hb1
      replace q1 := q1.below hb1
      have c0 := q1.cell 0
      simp only [List.getElem?_toArray, List.getElem?_cons_zero, List.getElem?_cons_succ] at c0
      have hB3 := HBE.out 2
      go_wp2_with (first
        | ((with_reducible show wpList _ _ _ (⟨some 17, _, _, _, _, _⟩ :: _) _ _); refine wpList_build1 rfl rfl rfl hB3 ?_)
        | ((with_reducible show wpList _ _ _ (⟨none, _, _, _, _, _⟩ :: _) _ _); refine wpList_put (vs := grC 0 none 0 0 2) rfl rfl rfl rfl q3 rfl (by rw [sizeGr]; rfl) (one_grC _ _ _ _ _) ?_; intro w9 ht9 b9))
      exact ret_blk rfl rfl rfl b9 aggGr (by rw [sizeGr]; rfl) ⟨_, _, _, rfl, OwnDs.nil _ _, (bstep hb0 hb1).trans (ht9.below _ (by omega))⟩
    · rw [if_neg h0]
      have d0 : ((k : Int) == 1099511627776) = false := by simp; omega
      have hkk : k < 1099511627776 := by omega
      rw [Int.toNat_natCast]
      obtain ⟨GR, hGR⟩ : ∃ x, grow nd tl k leaf = x := ⟨_, rfl⟩
      rw [hGR]
      have HT0 : Hid (t1 k ≤ tl.length ∧ tl.length ≤ 1000 ∧ grow nd tl k leaf = GR) := Lib.hid ⟨by rw [hll, hk3]; exact t1_le k k (Nat.le_refl _), by omega, hGR⟩
      clear hGR
      have HN := Lib.hid N.refNode
      have HG := Lib.hid (fun W (h : Below w.heap.size w W) => hg.below h)
      have HR := Lib.hid (fun W (h : Below w.heap.size w W) => hr.below h)
      have HLN := Lib.hid hll
      have HB2 := Lib.hid build_pk
      have HB1 := Lib.hid build_gr
      have hwa3 : w.heap.size + 1 + 1 + 1 ≤ wa.heap.size := by omega
      have HQ1 := Lib.hid (fun W (h : Below wa.heap.size wa W) => q1.below h)
      have HQ3 := Lib.hid (fun W (h : Below wa.heap.size wa W) => q3.below h)
      have HBW := Lib.hid (fun W (h : Below wa.heap.size wa W) => bstep hb0 h)
      clear hf hk3 hll hr hg h0 N
      unfold RgIs
      go_enter Tryd.func30, Tryd.ntmps30
      go_upto_region 1 with (fail)
      change Code.wp _ _ _ _ (((w.alloc (.cells (pkC k A m c) 51)).alloc (.cells (dgC leaf) 31)).alloc (.cells (grC 0 none 0 0 0) 57))
      rw [← HWA.out]
      go_wp2_with ((with_reducible show wpList _ _ _ (⟨some 9, _, _, _, _, _⟩ :: _) _ _); refine wpList_loadRow rfl rfl rfl q1 aggPk (by rw [sizePk]; rfl) ?_)
      refine HF.out.mono ?_
      rintro e w1 ⟨rfl, hb1⟩
      replace q1 := q1.below hb1
      replace q2 := q2.below hb1
      have c0 := q1.cell 0
      have c1 := q1.cell 1
      simp only [List.getElem?_toArray, List.getElem?_cons_zero, List.getElem?_cons_succ] at c0 c1
      have r0 := HR.out _ (bstep hb0 hb1)
      clear HF HWA q3 hb0
      go_upto_region 7 with (first
        | ((with_reducible show wpList _ _ _ (⟨some 18, _, _, _, _, _⟩ :: _) _ _); refine wpList_plain rfl fun K hK => wp_lit0D rfl fun wx gx hgx ownx hbx ltx => hK _ _ ?_; clear hgx hK ltx; replace q1 := q1.below hbx; replace r0 := r0.below hbx; clear c0 c1; have c1 := q1.cell 1; simp only [List.getElem?_toArray, List.getElem?_cons_zero, List.getElem?_cons_succ] at c1)
        | ((with_reducible show wpList _ _ _ (⟨some 21, _, _, _, _, _⟩ :: _) _ _); refine wpList_appK rfl rfl elemDg rfl (n := ([] : List Nat).length) (xs := dgsL []) ownx rfl r0.rd (one_dgsL _) (by simp only [List.length_nil]; omega) (Nat.le_of_lt (own_gtB ownx)) ?_; intro v7 w7 own7 _ hb7; replace hbx := hbx.trans hb7; clear hb7))
      have own7' : OwnDs w7 w1.heap.size v7 tl := by
        have h := OwnDs.app (a := []) (b := tl) (by rw [HLN.out]; exact own7)
        simpa using h
      have q17 := HQ1.out _ (bstep hb1 hbx)
      have q27 := q2.below (show Below w1.heap.size w1 w7 from hbx)
      clear own7 q1 q2 c1 r0 ownx
      have c0 := q17.cell 0
      simp only [List.getElem?_toArray, List.getElem?_cons_zero, List.getElem?_cons_succ] at c0
      go_wp2_with (first
        | ((with_reducible show wpList _ _ _ (⟨some 22, _, _, _, _, _⟩ :: _) _ _); refine wpList_loadRow rfl rfl rfl q27 aggDg (by rw [sizeDg, dgC_size]) ?_)
        | ((with_reducible show wpList _ _ _ (⟨some 7, _, _, _, _, _⟩ :: _) _ _); refine wpList_newDg (n := leaf) rfl rfl rfl rfl (fun _ => rfl) (fun _ => rfl) ?_; intro w8 g7 hg7 b7 hb8; have q18 := q17.below hb8; have c08 := q18.cell 0; simp only [List.getElem?_toArray, List.getElem?_cons_zero, List.getElem?_cons_succ] at c08))
      have hne0 : v7.ownBlock ≠ some g7 := fun e => by have h := (World.ownsRow.lt own7' _ e).2; omega
      have own8 := own7'.below hb8
      have hbx8 := bstep hbx hb8
      have hg7a : wa.heap.size ≤ g7 := by have := hb1.size; have := hbx.size; omega
      clear q17 q18 q27 c0 c08 own7' hbx hb8 hg7
      go_loopw [6, 8] (fun v6 v8 wr => ∃ (n : Nat) (L : List Nat) (T : Nat) (wB : World), v8 = .int .i64 (n : Int) ∧ n ≤ 1099511627776 ∧ OwnDs wr wB.heap.size v6 L ∧ Hid (t1 n ≤ L.length ∧ L.length ≤ 1000 ∧ grow nd L n T = GR) ∧ Below wa.heap.size wa wB ∧ Below wB.heap.size wB wr ∧ Blk wr g7 31 (dgC T) ∧ v6.ownBlock ≠ some g7) (fun _ v8 _ => (intOf v8).toNat)
      case atStart => exact ⟨k, tl, leaf, w1, rfl, hk2, own8, HT0, hb1, hbx8, b7, hne0⟩
      case round =>
        clear b7 own8 hne0 hb1 hbx8 HT0
        obtain ⟨n, L, T, wB, rfl, hn, o6, hre, hbB, hbl, b7, hne⟩ := hrel
        have hbw : Below wa.heap.size wa wr := bstep hbB hbl
        have hlt7 := b7.lt
        by_cases hod : n % 2 = 1
        · have dj : ((n : Int) % 2 == 1) = true := by simp; omega
          have e2 : (n : Int) / 2 = ((n / 2 : Nat) : Int) := by omega
          have ht1 : t1 n = 1 + t1 (n / 2) := by rw [t1, if_pos hod]
          obtain ⟨mm, hmm⟩ : ∃ mm, L.length = mm := ⟨_, rfl⟩
          obtain ⟨A6, c6, rfl, h61, h62, r6⟩ := o6.formN hmm
          have hm1 : mm ≤ 1000 := by have := hre.out; omega
          obtain ⟨j, hj⟩ : ∃ j, mm = j + 1 := ⟨mm - 1, by have := hre.out; omega⟩
          have e3 : (mm : Int) - 1 = (j : Int) := by omega
          have e4 : 0 ≤ (j : Int) ∧ (j : Int) < (mm : Int) := by omega
          have e5 : 0 ≤ (j : Int) ∧ (j : Int) ≤ (c6 : Int) := by omega
          obtain ⟨ad6, hA, hce⟩ := r6.elem (i := j) (by omega)
          subst hA
          obtain ⟨x, hx⟩ : ∃ x, x = L[j]'(by omega) := ⟨_, rfl⟩
          have hL : L = L.take j ++ [x] := by
            rw [hx, ← List.take_succ_eq_append_getElem (by omega), List.take_of_length_le (by omega)]
          have HST : Hid (t1 (n / 2) ≤ (L.take j).length ∧ (L.take j).length ≤ 1000 ∧ grow nd (L.take j) (n / 2) (nd x T) = GR) := Lib.hid (by
            have h := hre.out
            have hlen : (L.take j).length = j := by rw [List.length_take]; omega
            refine ⟨by omega, by omega, ?_⟩
            rw [← grow_step nd (L.take j) x n T hod (by omega), ← hL]
            exact h.2.2)
          rw [← hx] at hce
          have hn2 : n / 2 ≤ 1099511627776 := by omega
          have hn3 : n / 2 < n := by omega
          have hmj : j ≤ mm := by omega
          have HR6 := Lib.hid (fun W (h : RdD W (some ad6) mm L) => h.take hmj)
          have HMM := Lib.hid hmm
          have HLT : Hid ((L.take j).length = j) := Lib.hid (by rw [List.length_take]; omega)
          have HJ := Lib.hid hj
          clear hx hL ht1 hod hmm hre hj hmj r6
          generalize L.take j = L' at *
          generalize n / 2 = n2 at *
          have HNW := Lib.hid (fun W (h : Below wr.heap.size wr W) => HN.out x T W (HG.out _ (HBW.out _ (bstep hbw h))))
          generalize nd x T = T2 at *
          go_upto_region 11 with fail
          have hS : Below wr.heap.size wr wr.drew := (Below.refl _ _).drew
          refine wp_region_T 8 (by kernel_rfl) ?_
          refine WpT.take (i := 0) rfl (by kernel_rfl) (fun _ _ _ h => h) (.inl ⟨by rfl, fun w hSw => by clear hSw; go_simp; (try go_bits); (try rw [if_pos (by omega)]); (try with_reducible rfl)⟩) (hS) ?_
          try simp only [nrm]
          refine WpT.take (i := 1) rfl (by kernel_rfl) (fun _ _ _ h => h) (.inl ⟨by rfl, fun w hSw => by clear hSw; go_simp; (try go_bits); (try rw [if_pos (by omega)]); (try with_reducible rfl)⟩) (hS) ?_
          try simp only [nrm]
          refine WpT.take (i := 2) rfl (by kernel_rfl) (fun _ _ _ h => h) (.inl ⟨by rfl, fun w hSw => by clear hSw; go_simp; (try go_bits); (try rw [if_pos (by omega)]); (try with_reducible rfl)⟩) (hS) ?_
          try simp only [nrm]
          refine WpT.take (i := 3) rfl (by kernel_rfl) (fun _ _ _ h => h) (.inl ⟨by rfl, fun w hSw => by clear hSw; go_simp; (try go_bits); (try rw [if_pos (by omega)]); (try with_reducible rfl)⟩) (hS) ?_
          try simp only [nrm]
          refine WpT.take (i := 4) rfl (by kernel_rfl) (fun _ _ _ h => h) (.inl ⟨by rfl, fun w hSw => by clear hSw; go_simp; (try go_bits); (try rw [if_pos (by omega)]); (try with_reducible rfl)⟩) (hS) ?_
          try simp only [nrm]
          refine WpT.take (i := 5) rfl (by kernel_rfl) (fun _ _ _ h => h) (yields_loadK (us := bv (dg x)) rfl rfl rfl aggDg (by rw [sizeDg, bv_dg_len]) hce) (hS) ?_
          try simp only [nrm]
          refine WpT.take (i := 6) rfl (by kernel_rfl) (fun _ _ _ h => h) (yields_blk rfl rfl rfl aggDg (by rw [sizeDg, dgC_size]) b7) (hS) ?_
          try simp only [nrm]
          refine WpT.one (i := 7) rfl (by kernel_rfl) (fun K hK => ?_)
          go_simp; refine (HNW.out _ hS).mono ?_; rintro e w5 ⟨rfl, hb5⟩; have hS5 := bstep hS hb5
          refine hK _ _ (hS5) ?_; clear hK K; try simp only [nrm]
          refine WpT.tail (i := 8) rfl (by kernel_rfl) (by kernel_rfl) (fun K hK => ?_)
          refine wp_put (vs := dgC T2) rfl (by rfl) (by rfl) (b7.below hS5) rfl (by rw [sizeDg, dgC_size]) (one_dgC _) ?_; intro w9 ht9 b9
          refine hK _ _ ?_; clear hK K; try simp only [nrm]
          refine WpT.done (by kernel_rfl) ?_ _
          skip
          have o9 : OwnDs w9 wB.heap.size (.slice (some ad6) mm c6) L := ht9.own (o6.below hS5) hne
          have r9 := HR6.out _ (o9.rdN HMM.out)
          have hbw9 : Below wa.heap.size wa w9 := (bstep hbw hS5).trans (ht9.below _ hg7a)
          clear hS hS5 hb5 hce HNW b7 hbl hbw hbB o6 o9 ht9 HR6 HMM hne hlt7
          go_wp2_with (first
            | ((with_reducible show wpList _ _ _ (⟨some 38, _, _, _, _, _⟩ :: _) _ _); refine wpList_plain rfl fun K hK => wp_lit0D rfl fun wx gx hgx ownx hbx ltx => hK _ _ ?_; clear hgx hK ltx; replace r9 := r9.below hbx; replace b9' := b9.below hbx)
            | ((with_reducible show wpList _ _ _ (⟨some 44, _, _, _, _, _⟩ :: _) _ _); refine wpList_appK rfl rfl elemDg rfl (n := ([] : List Nat).length) (xs := dgsL []) ownx rfl r9.rd (one_dgsL _) (by simp only [List.length_nil]; omega) (Nat.le_of_lt (own_gtB ownx)) ?_; intro vA wA ownA _ hbA; replace hbx := hbx.trans hbA))
          have own7 : OwnDs wA w9.heap.size vA L' := by
            have h := OwnDs.app (a := []) (b := L') (by rw [HLT.out]; exact ownA)
            simpa using h
          have hneA : vA.ownBlock ≠ some g7 := fun e => by have h := (World.ownsRow.lt own7 _ e).1; have := b9.lt; omega
          exact ⟨⟨n2, L', T2, w9, by go_num, hn2, own7, HST, hbw9, hbx, b9.below hbx, hneA⟩, by simp [intOf]; omega⟩
        · have dj : ((n : Int) % 2 == 1) = false := by simp; omega
          have HGE : Hid (L ++ [T] = GR) := Lib.hid (by rw [← grow_end nd L n T hod]; exact hre.out.2.2)
          have hLl : L.length ≤ 1000 := hre.out.2.1
          have c0 := (HQ1.out _ hbB).cell 0
          simp only [List.getElem?_toArray, List.getElem?_cons_zero, List.getElem?_cons_succ] at c0
          have hdr : Below wr.heap.size wr wr.drew := (Below.refl _ _).drew
          have b7d := b7.below hdr
          have o6d := o6.below hdr
          have hS : Below wB.heap.size wB wr.drew := bstep hbl hdr
          have q3 := HQ3.out _ hbB
          have hwB : wa.heap.size ≤ wB.heap.size := hbB.size
          have hlq := q3.lt
          clear hre hod hbl hbw
          go_upto_region 13 with fail
          refine wp_region_TB (S := Below (wB).heap.size (wB)) 9 (by kernel_rfl) ?_
          refine WpT.take (i := 0) rfl (by kernel_rfl) (fun _ _ _ h => h) (.inl ⟨by rfl, fun w hSw => by clear hSw; go_simp; (try go_bits); (try rw [if_pos (by omega)]); (try with_reducible rfl)⟩) (hS) ?_
          try simp only [nrm]
          refine WpT.take (i := 1) rfl (by kernel_rfl) (fun _ _ _ h => h) (yields_load rfl rfl rfl (by kernel_rfl) c0) (hS) ?_
          try simp only [nrm]
          refine WpT.take (i := 2) rfl (by kernel_rfl) (fun _ _ _ h => h) (.inl ⟨by rfl, fun w hSw => by clear hSw; go_simp; (try go_bits); (try rw [if_pos (by omega)]); (try with_reducible rfl)⟩) (hS) ?_
          try simp only [nrm]
          refine WpT.take (i := 3) rfl (by kernel_rfl) (fun _ _ _ h => h) (.inl ⟨by rfl, fun w hSw => by clear hSw; go_simp; (try go_bits); (try rw [if_pos (by omega)]); (try with_reducible rfl)⟩) (hS) ?_
          try simp only [nrm]
          refine WpT.one (i := 4) rfl (by kernel_rfl) (fun K hK => ?_)
          refine wp_loadRow rfl (by rfl) b7d aggDg (by rw [sizeDg, dgC_size]) ?_
          refine hK _ _ (hS) ?_; clear hK K; try simp only [nrm]
          refine WpT.one (i := 5) rfl (by kernel_rfl) (fun K hK => ?_)
          refine wp_lit1Dl rfl (by rfl) ?_; intro w4 g4 hg4 hr4 hb4 lt4; replace o6d := o6d.below hb4; replace hS := bstep hS hb4
          refine hK _ _ (hS) ?_; clear hK K; try simp only [nrm]
          refine WpT.one (i := 6) rfl (by kernel_rfl) (fun K hK => ?_)
          refine wp_appK rfl elemDg (by rfl) o6d (by rfl) (m := 1) hr4 (one_dgsL [T]) (by omega) hS.size ?_; intro v6' w6 hown6 hg6 hb6; replace hown6 : OwnDs w6 wB.heap.size v6' (L ++ [T]) := OwnDs.app hown6; rw [HGE.out] at hown6; replace hS := hS.trans hb6; obtain ⟨A5, c5, rfl, -, -, -⟩ := hown6.form; have hbk := HB2.out ((k : Int) + 1) A5 GR.length c5; have hbg := HB1.out ((k : Int) + 1) A5 GR.length c5
          refine hK _ _ (hS) ?_; clear hK K; try simp only [nrm]
          refine WpT.take (i := 7) rfl (by kernel_rfl) (fun _ _ _ h => h) (yields_build2 rfl rfl (by rfl) (by rfl) hbk) (hS) ?_
          try simp only [nrm]
          refine WpT.take (i := 8) rfl (by kernel_rfl) (fun _ _ _ h => h) (yields_build1 rfl rfl (by rfl) hbg) (hS) ?_
          try simp only [nrm]
          refine WpT.tail (i := 9) rfl (by kernel_rfl) (by kernel_rfl) (fun K hK => ?_)
          refine wp_put (vs := grC ((k : Int) + 1) A5 GR.length c5 0) rfl (by rfl) (by rfl) (q3.below hS) rfl (by rw [sizeGr]; rfl) (one_grC _ _ _ _ _) ?_; intro w9 ht9 b9
          refine hK _ _ ?_; clear hK K; try simp only [nrm]
          refine WpT.done (by kernel_rfl) ?_ _
          skip
          go_wp2_with fail
          have hne9 : (Value.slice A5 GR.length c5).ownBlock ≠ some (w.heap.size + 1 + 1) := fun e => by have h := (World.ownsRow.lt hown6 _ e).1; omega
          exact ret_blk rfl rfl rfl b9 aggGr (by rw [sizeGr]; rfl) ⟨_, _, _, rfl, OwnDs.lower (ht9.own hown6 hne9) (by omega), (HBW.out _ (bstep hbB hS)).trans (ht9.below _ (by omega))⟩
end Go.Proofs.YtgggpnjnhhkmgaaDoor
namespace Go.Proofs.YtgggpnjnhhkmgaaDoor
set_option linter.unusedSimpArgs false
set_option linter.unusedVariables false
open Go.RowKit Exch Merk Go.Shelf
theorem OwnDs.rd' {w : World} {B : Nat} {A : Option Addr} {n c : Nat} {l : List Nat} (h : OwnDs w B (.slice A n c) l) : RdD w A n l ∧ n ≤ c ∧ c ≤ maxLen := by
  obtain ⟨A', c', e, h1, h2, r⟩ := h.form
  injection e with e1 e2 e3
  subst e1; subst e2; subst e3; exact ⟨r, h1, h2⟩
theorem td_dg {W : World} {g : Nat} {T : TypeId} {d : Nat} {e : Int} (hb : Blk W g T (tdC d e)) : ∀ j u, (bv (dg d))[j]? = some u → W.cell? ((⟨g, 0, none⟩ : Addr).add j) = some u := by
  intro j u h
  have hj := (List.getElem?_eq_some_iff.1 h).1
  have := hb.cell j
  rw [show ((⟨g, 0, none⟩ : Addr).add j) = ⟨g, j, none⟩ by simp [Addr.add]; omega, this]
  show ((bv (dg d) ++ [Value.int .i64 e]).toArray)[j]? = some u
  rw [List.getElem?_toArray, List.getElem?_append_left hj, h]
theorem td_er {W : World} {g : Nat} {T : TypeId} {d : Nat} {e : Int} (hb : Blk W g T (tdC d e)) : W.cell? ⟨g, 16, none⟩ = some (.int .i64 e) := by
  have := hb.cell 16
  rw [this]
  show ((bv (dg d) ++ [Value.int .i64 e]).toArray)[16]? = _
  rw [List.getElem?_toArray, List.getElem?_append_right (by rw [bv_dg_len]; omega), bv_dg_len]
  rfl
theorem foldr_lt {nd : Nat → Nat → Nat} {em : Nat} (N : Nds nd em) (x : Nat) (hx : x < 2 ^ 128) : ∀ l : List Nat, l.foldr nd x < 2 ^ 128
  | [] => hx
  | y :: l => N.lt _ _
theorem topN_lt {nd : Nat → Nat → Nat} {em : Nat} (N : Nds nd em) : ∀ l : List Nat, (∀ x ∈ l, x < 2 ^ 128) → topN nd em l < 2 ^ 128
  | [], _ => N.lt0
  | [x], h => h x (by simp)
  | x :: y :: l, h => N.lt _ _
theorem topR_lt {nd : Nat → Nat → Nat} {em : Nat} (N : Nds nd em) (s : Int) (l : List Nat) (h : ∀ x ∈ l, x < 2 ^ 128) : (topR nd em s l).1 < 2 ^ 128 := by
  unfold topR
  split
  · exact topN_lt N l h
  · show 0 < 2 ^ 128
    omega
theorem appendR_ok {nd : Nat → Nat → Nat} {em : Nat} (N : Nds nd em) (s : Int) (l : List Nat) (x : Nat) (hx : x < 2 ^ 128) (h : ∀ x ∈ l, x < 2 ^ 128) : (∀ y ∈ (appendR nd s l x).2.1, y < 2 ^ 128) ∧ (appendR nd s l x).2.1.length ≤ l.length + 1 := by
  unfold appendR
  split
  · split
    · exact ⟨by intro y hy; simp at hy, by simp⟩
    · refine ⟨fun y hy => ?_, ?_⟩
      · rcases List.mem_append.1 hy with hy | hy
        · exact h y (List.mem_of_mem_take hy)
        · rw [List.mem_singleton.1 hy]; exact foldr_lt N x hx _
      · simp only [grow, List.length_append, List.length_take, List.length_singleton]; omega
  · exact ⟨by intro y hy; simp at hy, by simp⟩
set_option maxRecDepth 100000 in
set_option maxHeartbeats 8000000 in
theorem walkMerklePeaksMatchSpec (s : Int) (A : Option Addr) (n c : Nat) (l : List Nat) (leaf : Nat) (w : World) (hnc : n ≤ c) (hcm : c ≤ maxLen) (hr : RdD w A n l) (hl : ∀ x ∈ l, x < 2 ^ 128) (hs : (Lit.int .i64 s).wf = true) (hlf : leaf < 2 ^ 128) (hg : GCon w) (hrc : RCon w) (hgb : GBru w) :
    Calls Tryd.prog 7 #[pkV s A n c, dgV leaf] w fun e w' => e = .returned (.bool true) ∧ Below w.heap.size w w' := by
  clear hs
  have HS := Lib.hid (fun (W : World) (h : Below w.heap.size w W) => sanity_any nds W (hg.below h) (hrc.below h) (hgb.below h))
  obtain ⟨wa, hwa, hb0, q1, q2⟩ : ∃ wa : World, wa = (w.alloc (.cells (pkC s A n c) 51)).alloc (.cells (dgC leaf) 31) ∧ Below w.heap.size w wa ∧ Blk wa w.heap.size 51 (pkC s A n c) ∧ Blk wa (w.heap.size + 1) 31 (dgC leaf) :=
    ⟨_, rfl, ((Below.refl w.heap.size w).alloc (Nat.le_refl _) _).alloc (by simp) _, (Blk.new _ _ _).alloc _, Blk.new2 _ _ _ _⟩
  have HWA := Lib.hid hwa
  clear hwa
  have c1 := q1.cell 1
  simp only [List.getElem?_toArray, List.getElem?_cons_zero, List.getElem?_cons_succ] at c1
  by_cases hn : 50 < n
  · have d1 : decide ((n : Int) > 50) = true := by rw [decide_eq_true_eq]; omega
    clear hr hl hg hrc hgb hn
    go_enter Tryd.func7, Tryd.ntmps7
    go_upto_region 1 with fail
    change Code.wp _ _ _ _ ((w.alloc (.cells (pkC s A n c) 51)).alloc (.cells (dgC leaf) 31))
    rw [← HWA.out]
    go_wp2_with fail
    refine (HS.out _ hb0).mono ?_
    rintro e w1 ⟨rfl, hb1⟩
    go_wp2_with fail
    go_ret
    exact ⟨rfl, bstep hb0 hb1⟩
  · have d1 : decide ((n : Int) > 50) = false := by rw [decide_eq_false_iff_not]; omega
    obtain ⟨nd, em, N⟩ : ∃ nd em, Nds nd em := ⟨_, _, nds⟩
    have HA := Lib.hid (fun (W : World) (h : Below w.heap.size w W) => append_any N s leaf A n c l W (by omega) (hr.below h) hnc hcm (hg.below h) (hgb.below h))
    have HT := Lib.hid (fun (W : World) (h : Below w.heap.size w W) => top_any N s A n c l W (by omega) (hr.below h) hnc hcm (hg.below h))
    have HRA := Lib.hid (fun (W : World) (h : Below w.heap.size w W) => refAppend_any N s leaf A n c l W (by omega) (hr.below h) hnc hcm (hrc.below h))
    have HRT := Lib.hid (fun (W : World) (h : Below w.heap.size w W) => refTop_any N s A n c l W (by omega) (hr.below h) hnc hcm (hrc.below h))
    have hD := topR_lt N s l hl
    obtain ⟨hL, hLn⟩ := appendR_ok N s l leaf hlf hl
    have hln := hr.len
    obtain ⟨s1, L1, e1, hAR⟩ : ∃ s1 L1 e1, appendR nd s l leaf = (s1, L1, e1) := ⟨_, _, _, rfl⟩
    obtain ⟨D, e2, hTR⟩ : ∃ D e2, topR nd em s l = (D, e2) := ⟨_, _, rfl⟩
    rw [hAR] at HA HRA hL hLn
    rw [hTR] at HT HRT hD
    dsimp only at hL hLn hD
    have hL5 : L1.length ≤ 1000 := by omega
    have HL := Lib.hid hL
    clear hAR hTR hn hln hLn hL N hr hl hg hrc hgb
    go_enter Tryd.func7, Tryd.ntmps7
    go_upto_region 1 with fail
    change Code.wp _ _ _ _ ((w.alloc (.cells (pkC s A n c) 51)).alloc (.cells (dgC leaf) 31))
    rw [← HWA.out]
    go_wp2_with (first
      | ((with_reducible show wpList _ _ _ (⟨some 17, _, _, _, _, _⟩ :: _) _ _); refine wpList_loadRow rfl rfl rfl q1 aggPk (by rw [sizePk]; rfl) ?_)
      | ((with_reducible show wpList _ _ _ (⟨some 18, _, _, _, _, _⟩ :: _) _ _); refine wpList_loadRow rfl rfl rfl q2 aggDg (by rw [sizeDg, dgC_size]) ?_))
    refine (HA.out _ hb0).mono ?_
    unfold ApIs
    rintro e w1 ⟨A1, n1, c1', rfl, own1, hb1⟩
    obtain ⟨r1, h11, h12⟩ := own1.rd'
    replace q1 := q1.below hb1
    replace q2 := q2.below hb1
    replace hb0 := bstep hb0 hb1
    clear c1 own1 hb1
    go_wp2_with (first
      | ((with_reducible show wpList _ _ _ (⟨some 5, _, _, _, _, _⟩ :: _) _ _); refine wpList_newRow (z := pkC 0 none 0 0) (vs := pkC s1 A1 n1 c1') rfl rfl rfl rfl (zeroPk _) (fun _ => rfl) (fun _ => rfl) rfl (by rw [sizePk]; rfl) (one_pkC _ _ _ _) ?_; intro w2 g5 hg5 b5 hb2 lt5; clear hg5 lt5)
      | ((with_reducible show wpList _ _ _ (⟨some 23, _, _, _, _, _⟩ :: _) _ _); refine wpList_loadRow rfl rfl rfl (q1.below hb2) aggPk (by rw [sizePk]; rfl) ?_))
    replace q1 := q1.below hb2
    replace q2 := q2.below hb2
    replace r1 := r1.below hb2
    replace hb0 := bstep hb0 hb2
    clear hb2
    refine (HT.out _ hb0).mono ?_
    rintro e w3 ⟨rfl, hb3⟩
    replace q1 := q1.below hb3
    replace q2 := q2.below hb3
    replace r1 := r1.below hb3
    replace b5 := b5.below hb3
    replace hb0 := bstep hb0 hb3
    clear hb3
    go_wp2_with (first
      | ((with_reducible show wpList _ _ _ (⟨some 7, _, _, _, _, _⟩ :: _) _ _); refine wpList_newDg (n := D) rfl rfl rfl rfl (fun _ => rfl) (fun _ => rfl) ?_; intro w4 g7 hg7 b7 hb4; clear hg7)
      | ((with_reducible show wpList _ _ _ (⟨some 27, _, _, _, _, _⟩ :: _) _ _); refine wpList_loadRow rfl rfl rfl (q1.below hb4) aggPk (by rw [sizePk]; rfl) ?_)
      | ((with_reducible show wpList _ _ _ (⟨some 28, _, _, _, _, _⟩ :: _) _ _); refine wpList_loadRow rfl rfl rfl (q2.below hb4) aggDg (by rw [sizeDg, dgC_size]) ?_))
    replace q1 := q1.below hb4
    replace r1 := r1.below hb4
    replace b5 := b5.below hb4
    replace hb0 := bstep hb0 hb4
    clear hb4 q2
    refine (HRA.out _ hb0).mono ?_
    unfold RgIs
    rintro e w5 ⟨A2, n2, c2, rfl, own2, hb5⟩
    obtain ⟨r2, h21, h22⟩ := own2.rd'
    replace q1 := q1.below hb5
    replace r1 := r1.below hb5
    replace b5 := b5.below hb5
    replace b7 := b7.below hb5
    replace hb0 := bstep hb0 hb5
    clear hb5 own2
    go_wp2_with (first
      | ((with_reducible show wpList _ _ _ (⟨some 9, _, _, _, _, _⟩ :: _) _ _); refine wpList_newRow (z := grC 0 none 0 0 0) (vs := grC s1 A2 n2 c2 e1) rfl rfl rfl rfl (zeroGr _) (fun _ => rfl) (fun _ => rfl) rfl (by rw [sizeGr]; rfl) (one_grC _ _ _ _ _) ?_; intro w6 g9 hg9 b9 hb6 lt9; clear hg9 lt9)
      | ((with_reducible show wpList _ _ _ (⟨some 30, _, _, _, _, _⟩ :: _) _ _); refine wpList_loadRow rfl rfl rfl (q1.below hb6) aggPk (by rw [sizePk]; rfl) ?_))
    replace r1 := r1.below hb6
    replace r2 := r2.below hb6
    replace b5 := b5.below hb6
    replace b7 := b7.below hb6
    replace hb0 := bstep hb0 hb6
    clear hb6 q1
    refine (HRT.out _ hb0).mono ?_
    rintro e w7 ⟨rfl, hb7⟩
    replace r1 := r1.below hb7
    replace r2 := r2.below hb7
    replace b5 := b5.below hb7
    replace b7 := b7.below hb7
    replace b9 := b9.below hb7
    replace hb0 := bstep hb0 hb7
    clear hb7
    go_wp2_with ((with_reducible show wpList _ _ _ (⟨some 10, _, _, _, _, _⟩ :: _) _ _); refine wpList_newRow (z := tdC 0 0) (vs := tdC D e2) rfl rfl rfl rfl (zeroTd _) (fun _ => rfl) (fun _ => rfl) (by rw [tdC_size, tdC_size]) (by rw [sizeTd, tdC_size]) (one_tdC _ _) ?_; intro w8 g10 hg10 b10 hb8 lt10; clear hg10 lt10)
    replace r1 := r1.below hb8
    replace r2 := r2.below hb8
    replace b5 := b5.below hb8
    replace b7 := b7.below hb8
    replace b9 := b9.below hb8
    replace hb0 := bstep hb0 hb8
    clear hb8
    refine (HS.out _ hb0).mono ?_
    rintro e wA ⟨rfl, hbA⟩
    replace r1 := r1.below hbA
    replace r2 := r2.below hbA
    replace b5 := b5.below hbA
    replace b7 := b7.below hbA
    replace b9 := b9.below hbA
    replace b10 := b10.below hbA
    replace hb0 := bstep hb0 hbA
    clear hbA
    have c50 := b5.cell 0
    have c51 := b5.cell 1
    have c90 := b9.cell 0
    have c91 := b9.cell 1
    simp only [List.getElem?_toArray, List.getElem?_cons_zero, List.getElem?_cons_succ] at c50 c51 c90 c91
    have en1 := r1.len
    have en2 := r2.len
    subst en1
    subst en2
    go_wp2_with fail
    refine (same_true r1 r2 hL5 HL.out).mono ?_
    rintro e wB ⟨rfl, hbB⟩
    replace b7 := b7.below hbB
    replace b9 := b9.below hbB
    replace b10 := b10.below hbB
    replace hb0 := bstep hb0 hbB
    have c92 := b9.cell 2
    have c16 := td_er b10
    have cdg := td_dg b10
    simp only [List.getElem?_toArray, List.getElem?_cons_zero, List.getElem?_cons_succ] at c92
    clear hbB c50 c51 c90 c91 r1 r2 b5 b9 b10
    go_wp2_with (first
      | ((with_reducible show wpList _ _ _ (⟨some 56, _, _, _, _, _⟩ :: _) _ _); refine wpList_loadRowW (by rfl) rfl rfl b7 aggDg (by rw [sizeDg, dgC_size]) ?_)
      | ((with_reducible show wpList _ _ _ (⟨some 58, _, _, _, _, _⟩ :: _) _ _); refine wpList_loadKW (us := bv (dg D)) (by rfl) rfl rfl aggDg (by rw [sizeDg, bv_dg_len]) cdg ?_)
      | ((with_reducible show wpList _ _ _ (⟨some 59, _, _, _, _, _⟩ :: _) _ _); refine wpList_eqDg (p := D) (q := D) (by rfl) rfl (by rfl) (by rfl) hD hD (fun W => by rfl) ?_; rw [decide_eq_true rfl]))
    go_ret
    exact ⟨rfl, hb0⟩
end Go.Proofs.YtgggpnjnhhkmgaaDoor
namespace Go.Proofs.YtgggpnjnhhkmgaaDoor
set_option linter.unusedSimpArgs false
set_option linter.unusedVariables false
set_option maxRecDepth 20000
open Go.ChangeShapes Go.WideShapes Go.ChangeAt Go.RowKit Sha Exch Merk
section
variable {H : Type} {enc : TypeId × Value → H} {W : World}
theorem okWide_structP {P : Program} {base : Nat} {t : TypeId} {fs : Array Field} {v : Value} (hs : P.underlying t = some (.struct fs)) (hval : Value.okWide P W .any base t v) : ∃ cs, v = .agg cs := by
  simp only [Value.okWide, hs] at hval
  obtain ⟨cs, rfl, _⟩ := hval
  exact ⟨cs, rfl⟩
theorem open_peaks {base : Nat} {v : Value} {d : DataW H} {p : List MemPlace} (hval : Value.okWide Tryd.prog W .any base 51 v) (h : DataW.Trod enc Tryd.prog W 0 (fun _ => true) true 51 v d p) :
    ∃ s A n c l, v = pkV s A n c ∧ n ≤ c ∧ c ≤ maxLen ∧ RdD W A n l ∧ (∀ x ∈ l, x < 2 ^ 128) ∧ (Lit.int .i64 s).wf = true := by
  obtain ⟨fs, hs, _⟩ := fields_of (l := [(0, 3), (1, 22)]) (show (Tryd.prog.underlying 51).map partsT = _ by kernel_rfl) (by simp)
  obtain ⟨cs, rfl⟩ := okWide_structP hs hval
  obtain ⟨fuel, hf⟩ := h
  obtain ⟨hl, hp⟩ := struct_at (L := [(0, 3), (1, 22)]) (by kernel_rfl) (by simp) hf
  obtain ⟨n0, y0, g0⟩ := hp 0 0 _ rfl
  obtain ⟨n1, y1, g1⟩ := hp 1 1 _ rfl
  rw [show Tryd.prog.cellsOf 51 = 2 by kernel_rfl] at hl
  rw [cInt] at g0
  rw [show Tryd.prog.cellsOf 22 = 1 by kernel_rfl] at g1
  obtain ⟨z, e0, _, w0⟩ := DataW.trod_int uInt g0
  obtain ⟨A, n, c, l, e1, h1, h2, h3, h4, h5⟩ := open_rowCells (t := 22) (e := 31) (by kernel_rfl) (k := 16) (by kernel_rfl) (by omega) (fun n => bv (dg n)) bv_dg_len (fun n => n < 2 ^ 128) (fun _ _ _ _ h => open_dgCells h) g1
  simp only [Value.cells] at e0 e1 hl
  have ec : cs = pkC z A n c := by
    apply Array.ext'
    have : cs.toList = (cs.toList.drop 0).take 1 ++ (cs.toList.drop 1).take 1 := by rw [List.drop_zero, List.take_of_length_le (i := 1) (l := cs.toList.drop 1) (by simp; simp at hl; omega), List.take_append_drop]
    rw [this, e0, e1]
    rfl
  subst ec
  exact ⟨z, A, n, c, l, rfl, h1, h2, ⟨h3, h4⟩, h5, w0⟩
end
end Go.Proofs.YtgggpnjnhhkmgaaDoor
namespace Go.Proofs.YtgggpnjnhhkmgaaDoor.merklePeaksMatchSpec
set_option linter.unusedSimpArgs false
set_option linter.unusedVariables false
open Go.ChangeShapes Go.WideShapes Go.ChangeAt Go.RowKit Go.Proofs.YtgggpnjnhhkmgaaDoor
open Go.ChangeMaps (open_string shut_string)

set_option maxRecDepth 20000 in
set_option maxHeartbeats 1000000 in
theorem contract (H : Type) (enc : TypeId × Value → H) (W : World) (base : Nat) (args : Array Value) (ds gs : List (DataW H)) (before : List MemPlace)
    (hval : ∀ (j : Nat) t v, Tryd.f7.params[j]? = some t → args[j]? = some v → Value.okWide Tryd.prog W .any base t v)
    (hW : DataW.Whole enc Tryd.prog Tryd.f7.params.toList Rows.merklePeaksMatchSpecSpec.vars false W args.toList ds gs before) (hL : laidMetH Tryd.prog Rows.merklePeaksMatchSpecRow.laid W) :
    Calls Tryd.prog 7 args W fun e W' => ∃ v, e = .returned v ∧ Rows.merklePeaksMatchSpecSpec.post enc Tryd.prog Tryd.f7 false true false false W args v W' := by
  have hW' := hW
  have hRef : RCon W := rcon_of hL
  have hBru : GBru W := bru_of hL.tail.tail
  have hCon : GCon W := con_of hL.tail.tail.tail
  obtain ⟨p, q, hA0, hV, rfl, hfz, hnd⟩ := hW
  have hA : DataW.TrodAll enc Tryd.prog W 0 (fun _ => true) true Tryd.f7.params.toList args.toList ds p := hA0
  rw [Tryd.params7] at hA hval
  obtain ⟨v0, vs0, d0, ds0, p0, q0, hargs, rfl, rfl, h0, r0⟩ := trodAll_cons hA
  obtain ⟨v1, vs1, d1, ds1, p1, q1, rfl, rfl, rfl, h1, r1⟩ := trodAll_cons r0
  obtain ⟨rfl, rfl, rfl⟩ := trodAll_nil r1
  obtain rfl : args = #[v0, v1] := by cases args; simp_all
  obtain ⟨rfl, rfl⟩ := trodVars_none hV
  have k0 := h0
  have lt0 : ∀ x ∈ p0, x.block < W.heap.size := by obtain ⟨m, hm⟩ := k0; exact DataW.trod_lt m _ _ _ hm
  obtain ⟨s0, A0, n0, c0, l0, rfl, x0, y0, z0, f0, g0⟩ := open_peaks (hval 0 51 v0 rfl rfl) h0
  have k1 := h1
  have lt1 : ∀ x ∈ p1, x.block < W.heap.size := by obtain ⟨m, hm⟩ := k1; exact DataW.trod_lt m _ _ _ hm
  obtain ⟨a1, rfl, x1⟩ := open_digest (hval 1 31 v1 rfl rfl) h1
  clear hA0
  refine (walkMerklePeaksMatchSpec s0 A0 n0 c0 l0 a1 W x0 y0 z0 f0 g0 x1 hCon hRef hBru).mono fun e W' ⟨he, bel⟩ => ?_
  subst he
  exact ⟨_, rfl, _, _, _, [], _, [], hW', trodAll_mk1 (shut_bool (by kernel_rfl) _), (trodAll_cons_mk (Below.trod laidOut (by kernel_rfl) (of_decide_eq_true (by kernel_rfl)) k0 bel lt0) (trodAll_cons_mk (Below.trod laidOut (by kernel_rfl) (of_decide_eq_true (by kernel_rfl)) k1 bel lt1) trodAll_mk0)), rfl, bel.frame _, fun h => by cases h⟩

theorem laid_met (os : Os) : laidMet Tryd.prog Rows.merklePeaksMatchSpecRow.laid ((laidWorldR os).forCall (fun _ _ => 0) ⟨#[], #[.agg #[.int .i64 0, .slice none 0 0], .agg #[.int .u8 0, .int .u8 0, .int .u8 0, .int .u8 0, .int .u8 0, .int .u8 0, .int .u8 0, .int .u8 0, .int .u8 0, .int .u8 0, .int .u8 0, .int .u8 0, .int .u8 0, .int .u8 0, .int .u8 0, .int .u8 0]], []⟩).memory :=
  laidMet_of_run' 8 (by kernel_rfl) (by kernel_rfl)
theorem reads (os : Os) {H : Type} (enc : TypeId × Value → H) : ∃ places, DataW.whole enc Tryd.prog ((laidWorldR os).forCall (fun _ _ => 0) ⟨#[], #[.agg #[.int .i64 0, .slice none 0 0], .agg #[.int .u8 0, .int .u8 0, .int .u8 0, .int .u8 0, .int .u8 0, .int .u8 0, .int .u8 0, .int .u8 0, .int .u8 0, .int .u8 0, .int .u8 0, .int .u8 0, .int .u8 0, .int .u8 0, .int .u8 0, .int .u8 0]], []⟩).memory Tryd.f7.params.toList Rows.merklePeaksMatchSpecSpec.vars false (#[.agg #[.int .i64 0, .slice none 0 0], .agg #[.int .u8 0, .int .u8 0, .int .u8 0, .int .u8 0, .int .u8 0, .int .u8 0, .int .u8 0, .int .u8 0, .int .u8 0, .int .u8 0, .int .u8 0, .int .u8 0, .int .u8 0, .int .u8 0, .int .u8 0, .int .u8 0]] : Array Value).toList 8 = some ([.agg [.lit (.int .i64 0), .nil], .agg [.lit (.int .u8 0), .lit (.int .u8 0), .lit (.int .u8 0), .lit (.int .u8 0), .lit (.int .u8 0), .lit (.int .u8 0), .lit (.int .u8 0), .lit (.int .u8 0), .lit (.int .u8 0), .lit (.int .u8 0), .lit (.int .u8 0), .lit (.int .u8 0), .lit (.int .u8 0), .lit (.int .u8 0), .lit (.int .u8 0), .lit (.int .u8 0)]], [], places) :=
  ⟨[], by kernel_rfl⟩
set_option maxRecDepth 100000 in
theorem lifted (os : Os) (started : os.Started) (H : Type) (enc : TypeId × Value → H) (F : Stop.Interp) :
    ReturnsInHanded {} Tryd.checked os 7 .any ((OpenSpec.ofChange Rows.merklePeaksMatchSpecSpec).preRow enc Tryd.prog Tryd.f7 Rows.merklePeaksMatchSpecRow.domain false Rows.merklePeaksMatchSpecRow.laid) (((OpenSpec.ofChange Rows.merklePeaksMatchSpecSpec).at F).post enc Tryd.prog Tryd.f7 false true false false) := by
  obtain ⟨places, hx⟩ := reads os enc
  refine returnsInHanded_of_row (C := Tryd.checked) (s := OpenSpec.ofChange Rows.merklePeaksMatchSpecSpec) own started (by kernel_rfl) Tryd.func7
    (witness_row_at (enc := enc) (C := Tryd.checked) false (laidWorldR os) #[.agg #[.int .i64 0, .slice none 0 0], .agg #[.int .u8 0, .int .u8 0, .int .u8 0, .int .u8 0, .int .u8 0, .int .u8 0, .int .u8 0, .int .u8 0, .int .u8 0, .int .u8 0, .int .u8 0, .int .u8 0, .int .u8 0, .int .u8 0, .int .u8 0, .int .u8 0]] rfl (by kernel_rfl) (by kernel_rfl) (by kernel_rfl)
      (OpenSpec.preRow_of_cond 8 hx (by kernel_rfl) (fun k hk => by cases hk) (by kernel_rfl) (laid_met os))) ?_
  intro W base args ds gs before hval hW _ _ _ hL _ _
  exact contract H enc W base args ds gs before hval hW hL
theorem said : Rows.MerklePeaksMatchSpecSaid :=
  OpenClaim.holds_of_cond 7 Tryd.f7 rfl rfl rfl rfl rfl rfl rfl ⟨rfl, rfl, rfl, rfl, rfl⟩ rfl rfl rfl rfl rfl (by kernel_rfl) Tryd.func7 (by kernel_rfl)
    (of_decide_eq_true (by kernel_rfl)) (by unfold Func.isWrapper; first | (rw [if_pos (by decide +kernel)]; kernel_rfl) | (rw [if_neg (by decide +kernel)]; exact ⟨rfl, rfl⟩))
    (fun os started H enc _ F => by rw [OpenClaim.pre_eq_preRow]; exact lifted os started H enc F)
theorem plain (f : FuncId) (fn : Func) (hf : Tryd.pinned.checked.prog.funcNamed "antiquary/antiquarylaw03.MerklePeaksMatchSpec" = some f) (hfn : Tryd.pinned.checked.prog.funcs[f]? = some fn) :
    false = Tryd.pinned.checked.prog.looks [] ∧ ∀ (j : Nat) t, fn.params[j]? = some t → Tryd.pinned.checked.prog.wantsStandIn t = false := by
  obtain rfl : f = 7 := Option.some.inj ((show Tryd.prog.funcNamed "antiquary/antiquarylaw03.MerklePeaksMatchSpec" = some 7 by kernel_rfl).symm.trans hf) |>.symm
  obtain rfl : fn = Tryd.f7 := (Option.some.inj (Tryd.func7.symm.trans hfn)).symm
  refine ⟨by kernel_rfl, fun j t ht => ?_⟩
  rw [Tryd.params7] at ht
  have hm := Array.mem_of_getElem? ht
  have hall : Tryd.f7.params.toList.all (fun t => !Tryd.prog.wantsStandIn t) = true := by kernel_rfl
  rw [Tryd.params7] at hall
  have := List.all_eq_true.1 hall t (by simpa using hm)
  have h2 : Tryd.prog.wantsStandIn t = false := by simpa using this
  exact h2
theorem card_holds : Rows.MerklePeaksMatchSpecCardSaid :=
  Claim7.holds_tied_plain_at .later [] _ _ _ _ said (fun _ h => by cases h) (by kernel_rfl) (fun _ h => by cases h) merklePeaksMatchSpec_row_tie rfl ⟨rfl, rfl⟩ (by kernel_rfl) rfl plain (by kernel_rfl)
#print axioms card_holds
end Go.Proofs.YtgggpnjnhhkmgaaDoor.merklePeaksMatchSpec
