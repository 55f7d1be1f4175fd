/-
  These texts, joined.
  Prefixes as values; what stands under a prefix; right prefixes: the program's and the reference's. Conditions: none.
  The reference's: Less, Bit, Right, Under. Conditions: none.
  SHA-256 on lists of bytes, by natural numbers below 2^32. No program here.
  What the word functions of SHA-256 compute, in the program and in the reference.
  What schedule of SHA-256 computes, in the program and in the reference.
  What words of the reference computes: the schedule, too.
  The words of a compression of SHA-256, as cells. Conditions: none.
-/
import Derived.Test.YtieamjjnofelcaaDoorB1
import Derived.Deep.Cut
import Derived.Deep.CutRange
namespace Go.Proofs.YtieamjjnofelcaaDoor
set_option linter.unusedSimpArgs false
set_option linter.unusedVariables false
open Go.RowKit Exch
abbrev pxL (v : Nat) (len : Int) : List Value := bv (dg v) ++ [.int .i64 len]
abbrev pxC (v : Nat) (len : Int) : Array Value := (pxL v len).toArray
abbrev pxV (v : Nat) (len : Int) : Value := .agg (pxC v len)
theorem pxL_len (v : Nat) (len : Int) : (pxL v len).length = 17 := by simp [pxL, dg_len]
theorem pxC_size (v : Nat) (len : Int) : (pxC v len).size = 17 := by simp [pxC, pxL, dg_len]
theorem aggPx : (Tryd.prog.underlying 28).map isAggDesc = some true := by kernel_rfl
theorem sizePx : (Tryd.prog.info? 28).map (·.size) = some 17 := by kernel_rfl
theorem one_pxC (v : Nat) (len : Int) : (pxC v len).all (·.oneCell') = true := by
  rw [Array.all_eq_true']
  intro u hu
  simp only [pxC, pxL, bv, List.mem_toArray, List.mem_append, List.mem_map, List.mem_singleton] at hu
  rcases hu with ⟨b, _, rfl⟩ | rfl <;> rfl
theorem blk_at {w : World} {g : Nat} {t : TypeId} {xs : List Value} (h : Blk w g t xs.toArray) (o : Nat) {ys : List Value} (hy : ∀ j u, ys[j]? = some u → xs[o + j]? = some u) : ∀ j u, ys[j]? = some u → w.cell? ((⟨g, o, none⟩ : Addr).add j) = some u := fun j u hj => by
  have h2 := h.cell (o + j)
  rw [List.getElem?_toArray, hy j u hj] at h2
  unfold Addr.add
  split
  · subst_vars; exact h2
  · exact h2
theorem Blk.pxD {w : World} {g : Nat} {t : TypeId} {v : Nat} {len : Int} (h : Blk w g t (pxC v len)) : ∀ j u, (bv (dg v))[j]? = some u → w.cell? ((⟨g, 0, none⟩ : Addr).add j) = some u :=
  blk_at h 0 fun j u hj => by
    rw [Nat.zero_add, List.getElem?_append_left (List.getElem?_eq_some_iff.1 hj).1]; exact hj
theorem Blk.pxN {w : World} {g : Nat} {t : TypeId} {v : Nat} {len : Int} (h : Blk w g t (pxC v len)) : w.cell? ⟨g, 16, none⟩ = some (.int .i64 len) := by
  have h2 := h.cell 16
  rw [List.getElem?_toArray, List.getElem?_append_right (by simp [dg_len])] at h2
  simpa [dg_len] using h2
theorem pxBox (w : World) (v : Nat) (len : Int) (n : Nat) : ∃ wa : World, wa = (w.alloc (.cells (pxC v len) 28)).alloc (.cells (dgC n) 26) ∧ Below w.heap.size w wa ∧ Blk wa w.heap.size 28 (pxC v len) ∧ Blk wa (w.heap.size + 1) 26 (dgC n) :=
  ⟨_, rfl, ((Below.refl w.heap.size w).alloc (Nat.le_refl _) _).alloc (by simp) _, (Blk.new _ _ _).alloc _, Blk.new2 _ _ _ _⟩
theorem masked_lt {n len : Nat} (hn : n < 2 ^ 128) : n / 2 ^ (128 - len) * 2 ^ (128 - len) < 2 ^ 128 := Nat.lt_of_le_of_lt (Nat.div_mul_le_self _ _) hn
set_option maxRecDepth 20000 in
set_option maxHeartbeats 1000000 in
theorem under_any (p : Px) (n : Nat) (w : World) (hp : Right p) (hn : n < 2 ^ 128) : Calls Tryd.prog 23 #[pxV p.v p.len, dgV n] w fun e w' => e = .returned (.bool (under p n)) ∧ Below w.heap.size w w' := by
  obtain ⟨wa, hwa, hb0, q0, q1⟩ := pxBox w p.v p.len n
  have HWA := Lib.hid hwa
  clear hwa
  have HM := Lib.hid (fun W => mask_any n p.len W hn hp.len)
  have HE := Lib.hid (fun W => eql_Dg (masked_lt (len := p.len) hn) hp.lt W)
  have HV : Hid (decide (n / 2 ^ (128 - p.len) * 2 ^ (128 - p.len) = p.v) = under p n) := Lib.hid (by rw [Bool.eq_iff_iff, decide_eq_true_eq]; exact under_mask hp n)
  rw [HV.out] at HE
  generalize under p n = V at *
  generalize n / 2 ^ (128 - p.len) * 2 ^ (128 - p.len) = M at *
  have c16 := q0.pxN
  go_enter Tryd.func23, Tryd.ntmps23
  go_upto_region 1 with (fail)
  change Code.wp _ _ _ _ ((w.alloc (.cells (pxC p.v p.len) 28)).alloc (.cells (dgC n) 26))
  rw [← HWA.out]
  have hS : Below wa.heap.size wa wa.drew := (Below.refl _ wa).drew
  have heq := HE.out
  refine wp_region_TB (S := Below (wa).heap.size (wa)) 7 (by kernel_rfl) ?_
  refine WpT.take (i := 0) rfl (by kernel_rfl) (fun _ _ _ h => h) (yields_blk rfl rfl rfl aggDg (by rw [sizeDg, dgC_size]) q1) (hS) ?_
  try simp only [nrm]
  refine WpT.take (i := 1) rfl (by kernel_rfl) (fun _ _ _ h => h) (.inl ⟨by rfl, fun w hSw => by clear hSw; go_simp; (try go_bits); (try rw [if_pos (by omega)]); (try with_reducible rfl)⟩) (hS) ?_
  try simp only [nrm]
  refine WpT.take (i := 2) rfl (by kernel_rfl) (fun _ _ _ h => h) (yields_load rfl rfl rfl (by kernel_rfl) c16) (hS) ?_
  try simp only [nrm]
  refine WpT.take (i := 4) rfl (by kernel_rfl) (fun _ _ _ h => h) (.inl ⟨by rfl, fun w hSw => by clear hSw; go_simp; (try go_bits); (try rw [if_pos (by omega)]); (try with_reducible rfl)⟩) (hS) ?_
  try simp only [nrm]
  refine WpT.take (i := 5) rfl (by kernel_rfl) (fun _ _ _ h => h) (yields_loadK (us := bv (dg p.v)) rfl rfl rfl aggDg (by rw [sizeDg, bv_dg_len]) q0.pxD) (hS) ?_
  try simp only [nrm]
  refine WpT.one (i := 3) rfl (by kernel_rfl) (fun K hK => ?_)
  go_simp; refine (HM.out _).mono ?_; rintro e w3 ⟨rfl, hb3⟩; replace hS := bstep hS hb3
  refine hK _ _ (hS) ?_; clear hK K; try simp only [nrm]
  refine WpT.take (i := 6) rfl (by kernel_rfl) (fun _ _ _ h => h) (.inl ⟨by rfl, fun w hSw => by clear hSw; go_simp; (try go_bits); (try rw [if_pos (by omega)]); (try with_reducible rfl)⟩) (hS) ?_
  try simp only [nrm]
  refine WpT.tail (i := 7) rfl (by kernel_rfl) (by kernel_rfl) (fun K hK => ?_)
  go_simp; (try go_bits)
  refine hK _ _ ?_; clear hK K; try simp only [nrm]
  refine WpT.done (by kernel_rfl) ?_ _
  go_wp2_with fail
  go_ret
  exact ⟨rfl, bstep hb0 hS⟩
def rightB (v : Nat) (len : Int) : Bool := decide (0 ≤ len) && (decide (len ≤ 128) && decide (v / 2 ^ (128 - len.toNat) * 2 ^ (128 - len.toNat) = v))
theorem rightB_iff {v : Nat} {len : Int} (hv : v < 2 ^ 128) : rightB v len = true ↔ 0 ≤ len ∧ Right ⟨v, len.toNat⟩ := by
  unfold rightB
  simp only [Bool.and_eq_true, decide_eq_true_eq]
  constructor
  · rintro ⟨h0, h1, h2⟩
    exact ⟨h0, (right_mask (p := ⟨v, len.toNat⟩) hv (by show len.toNat ≤ 128; omega)).1 h2⟩
  · rintro ⟨h0, h⟩
    have hl := h.len
    simp only at hl
    exact ⟨h0, by omega, (right_mask (p := ⟨v, len.toNat⟩) hv hl).2 h⟩
theorem pxBox1 (w : World) (v : Nat) (len : Int) : ∃ wa : World, wa = w.alloc (.cells (pxC v len) 28) ∧ Below w.heap.size w wa ∧ Blk wa w.heap.size 28 (pxC v len) :=
  ⟨_, rfl, (Below.refl w.heap.size w).alloc (Nat.le_refl _) _, Blk.new _ _ _⟩
set_option maxRecDepth 20000 in
set_option maxHeartbeats 1000000 in
theorem right_any (v : Nat) (len : Int) (w : World) (hv : v < 2 ^ 128) : Calls Tryd.prog 59 #[pxV v len] w fun e w' => e = .returned (.bool (rightB v len)) ∧ Below w.heap.size w w' := by
  obtain ⟨wa, hwa, hb0, q0⟩ := pxBox1 w v len
  have HWA := Lib.hid hwa
  clear hwa
  have c16 := q0.pxN
  by_cases h0 : 0 ≤ len
  · have d0 : decide (0 ≤ len) = true := by simpa using h0
    by_cases h1 : len ≤ 128
    · have d1 : decide (len ≤ 128) = true := by simpa using h1
      have HM := Lib.hid (fun W => mask_any v len.toNat W hv (by omega))
      rw [show ((len.toNat : Nat) : Int) = len by omega] at HM
      have HE := Lib.hid (fun W => eql_Dg (masked_lt (len := len.toNat) hv) hv W)
      have HV : Hid (rightB v len = decide (v / 2 ^ (128 - len.toNat) * 2 ^ (128 - len.toNat) = v)) := Lib.hid (by unfold rightB; rw [d0, d1]; simp)
      rw [HV.out]
      clear HV h0 h1
      generalize v / 2 ^ (128 - len.toNat) * 2 ^ (128 - len.toNat) = M at *
      go_enter Tryd.func59, Tryd.ntmps59
      go_upto_region 1 with (fail)
      change Code.wp _ _ _ _ (w.alloc (.cells (pxC v len) 28))
      rw [← HWA.out]
      have hS : Below wa.heap.size wa wa.drew := (Below.refl _ wa).drew
      have heq := HE.out
      refine wp_region_TB (S := Below (wa).heap.size (wa)) 18 (by kernel_rfl) ?_
      refine WpT.take (i := 0) rfl (by kernel_rfl) (fun _ _ _ h => h) (.inl ⟨by rfl, fun w hSw => by clear hSw; go_simp; (try go_bits); (try rw [if_pos (by omega)]); (try with_reducible rfl)⟩) (hS) ?_
      try simp only [nrm]
      refine WpT.take (i := 1) rfl (by kernel_rfl) (fun _ _ _ h => h) (yields_load rfl rfl rfl (by kernel_rfl) c16) (hS) ?_
      try simp only [nrm]
      refine WpT.take (i := 2) rfl (by kernel_rfl) (fun _ _ _ h => h) (.inl ⟨by rfl, fun w hSw => by clear hSw; go_simp; (try go_bits); (try rw [if_pos (by omega)]); (try with_reducible rfl)⟩) (hS) ?_
      try simp only [nrm]
      refine WpT.take (i := 3) rfl (by kernel_rfl) (fun _ _ _ h => h) (.inl ⟨by rfl, fun w hSw => by clear hSw; go_simp; (try go_bits); (try rw [if_pos (by omega)]); (try with_reducible rfl)⟩) (hS) ?_
      try simp only [nrm]
      refine WpT.take (i := 4) rfl (by kernel_rfl) (fun _ _ _ h => h) (.inl ⟨by rfl, fun w hSw => by clear hSw; go_simp; (try go_bits); (try rw [if_pos (by omega)]); (try with_reducible rfl)⟩) (hS) ?_
      try simp only [nrm]
      refine WpT.take (i := 5) rfl (by kernel_rfl) (fun _ _ _ h => h) (yields_loadW (by rfl) rfl rfl (by kernel_rfl) c16) (hS) ?_
      try simp only [nrm]
      refine WpT.take (i := 6) rfl (by kernel_rfl) (fun _ _ _ h => h) (.inl ⟨by rfl, fun w hSw => by clear hSw; go_simp; (try go_bits); (try rw [if_pos (by omega)]); (try with_reducible rfl)⟩) (hS) ?_
      try simp only [nrm]
      refine WpT.take (i := 7) rfl (by kernel_rfl) (fun _ _ _ h => h) (.inl ⟨by rfl, fun w hSw => by clear hSw; go_simp; (try go_bits); (try rw [if_pos (by omega)]); (try with_reducible rfl)⟩) (hS) ?_
      try simp only [nrm]
      refine WpT.take (i := 8) rfl (by kernel_rfl) (fun _ _ _ h => h) (.inl ⟨by rfl, fun w hSw => by clear hSw; go_simp; (try go_bits); (try rw [if_pos (by omega)]); (try with_reducible rfl)⟩) (hS) ?_
      try simp only [nrm]
      refine WpT.take (i := 9) rfl (by kernel_rfl) (fun _ _ _ h => h) (.inl ⟨by rfl, fun w hSw => by clear hSw; go_simp; (try go_bits); (try rw [if_pos (by omega)]); (try with_reducible rfl)⟩) (hS) ?_
      try simp only [nrm]
      refine WpT.take (i := 10) rfl (by kernel_rfl) (fun _ _ _ h => h) (yields_loadKW (us := bv (dg v)) (by rfl) rfl rfl aggDg (by rw [sizeDg, bv_dg_len]) q0.pxD) (hS) ?_
      try simp only [nrm]
      refine WpT.take (i := 11) rfl (by kernel_rfl) (fun _ _ _ h => h) (.inl ⟨by rfl, fun w hSw => by clear hSw; go_simp; (try go_bits); (try rw [if_pos (by omega)]); (try with_reducible rfl)⟩) (hS) ?_
      try simp only [nrm]
      refine WpT.take (i := 12) rfl (by kernel_rfl) (fun _ _ _ h => h) (yields_loadW (by rfl) rfl rfl (by kernel_rfl) c16) (hS) ?_
      try simp only [nrm]
      refine WpT.take (i := 14) rfl (by kernel_rfl) (fun _ _ _ h => h) (.inl ⟨by rfl, fun w hSw => by clear hSw; go_simp; (try go_bits); (try rw [if_pos (by omega)]); (try with_reducible rfl)⟩) (hS) ?_
      try simp only [nrm]
      refine WpT.take (i := 15) rfl (by kernel_rfl) (fun _ _ _ h => h) (yields_loadKW (us := bv (dg v)) (by rfl) rfl rfl aggDg (by rw [sizeDg, bv_dg_len]) q0.pxD) (hS) ?_
      try simp only [nrm]
      refine WpT.one (i := 13) rfl (by kernel_rfl) (fun K hK => ?_)
      go_simp; refine (HM.out _).mono ?_; rintro e w3 ⟨rfl, hb3⟩; replace hS := bstep hS hb3
      refine hK _ _ (hS) ?_; clear hK K; try simp only [nrm]
      refine WpT.take (i := 16) rfl (by kernel_rfl) (fun _ _ _ h => h) (.inl ⟨by rfl, fun w hSw => by clear hSw; go_simp; (try go_bits); (try rw [if_pos (by omega)]); (try with_reducible rfl)⟩) (hS) ?_
      try simp only [nrm]
      refine WpT.take (i := 17) rfl (by kernel_rfl) (fun _ _ _ h => h) (.inl ⟨by rfl, fun w hSw => by clear hSw; go_simp; (try go_bits); (try rw [if_pos (by omega)]); (try with_reducible rfl)⟩) (hS) ?_
      try simp only [nrm]
      refine WpT.tail (i := 18) rfl (by kernel_rfl) (by kernel_rfl) (fun K hK => ?_)
      go_simp; (try go_bits)
      refine hK _ _ ?_; clear hK K; try simp only [nrm]
      refine WpT.done (by kernel_rfl) ?_ _
      go_wp2_with fail
      go_ret
      exact ⟨rfl, bstep hb0 hS⟩
    · have d1 : decide (len ≤ 128) = false := by simpa using h1
      have HV : Hid (rightB v len = false) := Lib.hid (by unfold rightB; rw [d0, d1]; rfl)
      rw [HV.out]
      clear HV h0 h1
      go_enter Tryd.func59, Tryd.ntmps59
      go_upto_region 1 with (fail)
      change Code.wp _ _ _ _ (w.alloc (.cells (pxC v len) 28))
      rw [← HWA.out]
      have hS : Below wa.heap.size wa wa.drew := (Below.refl _ wa).drew
      refine wp_region_TB (S := Below (wa).heap.size (wa)) 18 (by kernel_rfl) ?_
      refine WpT.take (i := 0) rfl (by kernel_rfl) (fun _ _ _ h => h) (.inl ⟨by rfl, fun w hSw => by clear hSw; go_simp; (try go_bits); (try rw [if_pos (by omega)]); (try with_reducible rfl)⟩) (hS) ?_
      try simp only [nrm]
      refine WpT.take (i := 1) rfl (by kernel_rfl) (fun _ _ _ h => h) (yields_load rfl rfl rfl (by kernel_rfl) c16) (hS) ?_
      try simp only [nrm]
      refine WpT.take (i := 2) rfl (by kernel_rfl) (fun _ _ _ h => h) (.inl ⟨by rfl, fun w hSw => by clear hSw; go_simp; (try go_bits); (try rw [if_pos (by omega)]); (try with_reducible rfl)⟩) (hS) ?_
      try simp only [nrm]
      refine WpT.take (i := 3) rfl (by kernel_rfl) (fun _ _ _ h => h) (.inl ⟨by rfl, fun w hSw => by clear hSw; go_simp; (try go_bits); (try rw [if_pos (by omega)]); (try with_reducible rfl)⟩) (hS) ?_
      try simp only [nrm]
      refine WpT.take (i := 4) rfl (by kernel_rfl) (fun _ _ _ h => h) (.inl ⟨by rfl, fun w hSw => by clear hSw; go_simp; (try go_bits); (try rw [if_pos (by omega)]); (try with_reducible rfl)⟩) (hS) ?_
      try simp only [nrm]
      refine WpT.take (i := 5) rfl (by kernel_rfl) (fun _ _ _ h => h) (yields_loadW (by rfl) rfl rfl (by kernel_rfl) c16) (hS) ?_
      try simp only [nrm]
      refine WpT.take (i := 6) rfl (by kernel_rfl) (fun _ _ _ h => h) (.inl ⟨by rfl, fun w hSw => by clear hSw; go_simp; (try go_bits); (try rw [if_pos (by omega)]); (try with_reducible rfl)⟩) (hS) ?_
      try simp only [nrm]
      refine WpT.take (i := 7) rfl (by kernel_rfl) (fun _ _ _ h => h) (.inl ⟨by rfl, fun w hSw => by clear hSw; go_simp; (try go_bits); (try rw [if_pos (by omega)]); (try with_reducible rfl)⟩) (hS) ?_
      try simp only [nrm]
      refine WpT.take (i := 8) rfl (by kernel_rfl) (fun _ _ _ h => h) (.inl ⟨by rfl, fun w hSw => by clear hSw; go_simp; (try go_bits); (try rw [if_pos (by omega)]); (try with_reducible rfl)⟩) (hS) ?_
      try simp only [nrm]
      refine WpT.take (i := 9) rfl (by kernel_rfl) (fun _ _ _ h => h) (.inr ⟨by rfl, rfl⟩) (hS) ?_
      try simp only [nrm]
      refine WpT.take (i := 10) rfl (by kernel_rfl) (fun _ _ _ h => h) (.inr ⟨by rfl, rfl⟩) (hS) ?_
      try simp only [nrm]
      refine WpT.take (i := 11) rfl (by kernel_rfl) (fun _ _ _ h => h) (.inr ⟨by rfl, rfl⟩) (hS) ?_
      try simp only [nrm]
      refine WpT.take (i := 12) rfl (by kernel_rfl) (fun _ _ _ h => h) (.inr ⟨by rfl, rfl⟩) (hS) ?_
      try simp only [nrm]
      refine WpT.take (i := 13) rfl (by kernel_rfl) (fun _ _ _ h => h) (.inr ⟨by rfl, rfl⟩) (hS) ?_
      try simp only [nrm]
      refine WpT.take (i := 14) rfl (by kernel_rfl) (fun _ _ _ h => h) (.inr ⟨by rfl, rfl⟩) (hS) ?_
      try simp only [nrm]
      refine WpT.take (i := 15) rfl (by kernel_rfl) (fun _ _ _ h => h) (.inr ⟨by rfl, rfl⟩) (hS) ?_
      try simp only [nrm]
      refine WpT.take (i := 16) rfl (by kernel_rfl) (fun _ _ _ h => h) (.inr ⟨by rfl, rfl⟩) (hS) ?_
      try simp only [nrm]
      refine WpT.take (i := 17) rfl (by kernel_rfl) (fun _ _ _ h => h) (.inl ⟨by rfl, fun w hSw => by clear hSw; go_simp; (try go_bits); (try rw [if_pos (by omega)]); (try with_reducible rfl)⟩) (hS) ?_
      try simp only [nrm]
      refine WpT.tail (i := 18) rfl (by kernel_rfl) (by kernel_rfl) (fun K hK => ?_)
      go_simp; (try go_bits)
      refine hK _ _ ?_; clear hK K; try simp only [nrm]
      refine WpT.done (by kernel_rfl) ?_ _
      go_wp2_with fail
      go_ret
      exact ⟨rfl, bstep hb0 hS⟩
  · have d0 : decide (0 ≤ len) = false := by simpa using h0
    have HV : Hid (rightB v len = false) := Lib.hid (by unfold rightB; rw [d0]; rfl)
    rw [HV.out]
    clear HV h0
    go_enter Tryd.func59, Tryd.ntmps59
    go_upto_region 1 with (fail)
    change Code.wp _ _ _ _ (w.alloc (.cells (pxC v len) 28))
    rw [← HWA.out]
    have hS : Below wa.heap.size wa wa.drew := (Below.refl _ wa).drew
    refine wp_region_TB (S := Below (wa).heap.size (wa)) 18 (by kernel_rfl) ?_
    refine WpT.take (i := 0) rfl (by kernel_rfl) (fun _ _ _ h => h) (.inl ⟨by rfl, fun w hSw => by clear hSw; go_simp; (try go_bits); (try rw [if_pos (by omega)]); (try with_reducible rfl)⟩) (hS) ?_
    try simp only [nrm]
    refine WpT.take (i := 1) rfl (by kernel_rfl) (fun _ _ _ h => h) (yields_load rfl rfl rfl (by kernel_rfl) c16) (hS) ?_
    try simp only [nrm]
    refine WpT.take (i := 2) rfl (by kernel_rfl) (fun _ _ _ h => h) (.inl ⟨by rfl, fun w hSw => by clear hSw; go_simp; (try go_bits); (try rw [if_pos (by omega)]); (try with_reducible rfl)⟩) (hS) ?_
    try simp only [nrm]
    refine WpT.take (i := 3) rfl (by kernel_rfl) (fun _ _ _ h => h) (.inl ⟨by rfl, fun w hSw => by clear hSw; go_simp; (try go_bits); (try rw [if_pos (by omega)]); (try with_reducible rfl)⟩) (hS) ?_
    try simp only [nrm]
    refine WpT.take (i := 4) rfl (by kernel_rfl) (fun _ _ _ h => h) (.inr ⟨by rfl, rfl⟩) (hS) ?_
    try simp only [nrm]
    refine WpT.take (i := 5) rfl (by kernel_rfl) (fun _ _ _ h => h) (.inr ⟨by rfl, rfl⟩) (hS) ?_
    try simp only [nrm]
    refine WpT.take (i := 6) rfl (by kernel_rfl) (fun _ _ _ h => h) (.inr ⟨by rfl, rfl⟩) (hS) ?_
    try simp only [nrm]
    refine WpT.take (i := 7) rfl (by kernel_rfl) (fun _ _ _ h => h) (.inl ⟨by rfl, fun w hSw => by clear hSw; go_simp; (try go_bits); (try rw [if_pos (by omega)]); (try with_reducible rfl)⟩) (hS) ?_
    try simp only [nrm]
    refine WpT.take (i := 8) rfl (by kernel_rfl) (fun _ _ _ h => h) (.inl ⟨by rfl, fun w hSw => by clear hSw; go_simp; (try go_bits); (try rw [if_pos (by omega)]); (try with_reducible rfl)⟩) (hS) ?_
    try simp only [nrm]
    refine WpT.take (i := 9) rfl (by kernel_rfl) (fun _ _ _ h => h) (.inr ⟨by rfl, rfl⟩) (hS) ?_
    try simp only [nrm]
    refine WpT.take (i := 10) rfl (by kernel_rfl) (fun _ _ _ h => h) (.inr ⟨by rfl, rfl⟩) (hS) ?_
    try simp only [nrm]
    refine WpT.take (i := 11) rfl (by kernel_rfl) (fun _ _ _ h => h) (.inr ⟨by rfl, rfl⟩) (hS) ?_
    try simp only [nrm]
    refine WpT.take (i := 12) rfl (by kernel_rfl) (fun _ _ _ h => h) (.inr ⟨by rfl, rfl⟩) (hS) ?_
    try simp only [nrm]
    refine WpT.take (i := 13) rfl (by kernel_rfl) (fun _ _ _ h => h) (.inr ⟨by rfl, rfl⟩) (hS) ?_
    try simp only [nrm]
    refine WpT.take (i := 14) rfl (by kernel_rfl) (fun _ _ _ h => h) (.inr ⟨by rfl, rfl⟩) (hS) ?_
    try simp only [nrm]
    refine WpT.take (i := 15) rfl (by kernel_rfl) (fun _ _ _ h => h) (.inr ⟨by rfl, rfl⟩) (hS) ?_
    try simp only [nrm]
    refine WpT.take (i := 16) rfl (by kernel_rfl) (fun _ _ _ h => h) (.inr ⟨by rfl, rfl⟩) (hS) ?_
    try simp only [nrm]
    refine WpT.take (i := 17) rfl (by kernel_rfl) (fun _ _ _ h => h) (.inl ⟨by rfl, fun w hSw => by clear hSw; go_simp; (try go_bits); (try rw [if_pos (by omega)]); (try with_reducible rfl)⟩) (hS) ?_
    try simp only [nrm]
    refine WpT.tail (i := 18) rfl (by kernel_rfl) (by kernel_rfl) (fun K hK => ?_)
    go_simp; (try go_bits)
    refine hK _ _ ?_; clear hK K; try simp only [nrm]
    refine WpT.done (by kernel_rfl) ?_ _
    go_wp2_with fail
    go_ret
    exact ⟨rfl, bstep hb0 hS⟩
end Go.Proofs.YtieamjjnofelcaaDoor
namespace Go.Proofs.YtieamjjnofelcaaDoor
set_option linter.unusedSimpArgs false
set_option linter.unusedVariables false
open Go.RowKit Exch
theorem bits_bit (u : Nat) (hu : u < 256) (m : Nat) (hm : m < 8) : (bits .and .u8 ((u / 2 ^ m : Nat) : Int) 1 == 1) = (u / 2 ^ m % 2 == 1) := by
  have h : ∀ x : Fin 256, (bits .and .u8 ((x.val : Nat) : Int) 1 == 1) = (x.val % 2 == 1) := by decide +kernel
  exact h ⟨u / 2 ^ m, Nat.lt_of_le_of_lt (Nat.div_le_self _ _) hu⟩
set_option maxRecDepth 20000 in
set_option maxHeartbeats 1000000 in
theorem bit_any (n k : Nat) (w : World) (hn : n < 2 ^ 128) (hk : k < 128) : Calls Tryd.prog 45 #[dgV n, .int .i64 k] w fun e w' => e = .returned (.bool (n.testBit (127 - k))) ∧ Below w.heap.size w w' := by
  have hlen := dg_len n
  have hj : k / 8 < (dg n).length := by omega
  obtain ⟨wa, hwa, hb0, q0⟩ : ∃ wa : World, wa = w.alloc (.cells (dgC n) 26) ∧ Below w.heap.size w wa ∧ Blk wa w.heap.size 26 (dgC n) := ⟨_, rfl, (Below.refl w.heap.size w).alloc (Nat.le_refl _) _, Blk.new _ _ _⟩
  have HWA := Lib.hid hwa
  clear hwa
  have HV : Hid (n.testBit (127 - k) = (bits .and .u8 (((dg n)[k / 8].toNat / 2 ^ (7 - k % 8) : Nat) : Int) 1 == 1)) := Lib.hid (by
    have h := bitD_val (d := dg n) (k := k) (by rw [hlen]; omega)
    rw [hlen, val_dg (by rw [n256]; exact hn), show 8 * 16 - 1 - k = 127 - k by omega] at h
    rw [← h, bits_bit _ (by exact (dg n)[k / 8].toNat_lt) _ (by omega)]
    unfold bitD
    rw [List.getD_eq_getElem?_getD, List.getElem?_eq_getElem hj]
    rfl)
  rw [HV.out]
  clear HV
  have hc := q0.cell (k / 8)
  simp only [dgC, List.getElem?_toArray, bv, List.getElem?_map, List.getElem?_eq_getElem hj, Option.map_some] at hc
  generalize (dg n)[k / 8] = u at *
  have hq : ((k : Int).tdiv 8) = ((k / 8 : Nat) : Int) := by rw [Int.tdiv_eq_ediv_of_nonneg (by omega)]; rfl
  have hr : ((k : Int).tmod 8) = ((k % 8 : Nat) : Int) := by rw [Int.tmod_eq_emod_of_nonneg (by omega)]; rfl
  have hk8 : k / 8 < 16 := by omega
  go_enter Tryd.func45, Tryd.ntmps45
  go_upto_region 1 with (fail)
  change Code.wp _ _ _ _ (w.alloc (.cells (dgC n) 26))
  rw [← HWA.out]
  have hcast : ((u.toNat / 2 ^ (7 - k % 8) : Nat) : Int) = (u.toNat : Int) / 2 ^ (7 - k % 8) := by push_cast; rfl
  have HCT := Lib.hid hcast
  clear hcast
  go_wp2_with fail
  go_ret
  exact ⟨by rw [HCT.out]; rfl, hb0⟩
set_option maxRecDepth 20000 in
set_option maxHeartbeats 1000000 in
theorem refLess_any (a b : Nat) (w : World) (ha : a < 2 ^ 128) (hb : b < 2 ^ 128) : Calls Tryd.prog 42 #[dgV a, dgV b] w fun e w' => e = .returned (.bool (decide (a < b))) ∧ Below w.heap.size w w' := by
  obtain ⟨wa, hwa, hb0, q0, q1⟩ := dgBox2 w a b
  have HWA := Lib.hid hwa
  clear hwa
  have HV0 : Hid (decide (a < b) = ltD ((dg a).drop 0) ((dg b).drop 0)) := Lib.hid (by
    rw [List.drop_zero, List.drop_zero, ltD_val _ _ (by rw [dg_len, dg_len]), val_dg (by rw [n256]; exact ha), val_dg (by rw [n256]; exact hb)])
  generalize decide (a < b) = V at *
  go_enter Tryd.func42, Tryd.ntmps42
  go_upto_region 1 with (fail)
  change Code.wp _ _ _ _ ((w.alloc (.cells (dgC a) 26)).alloc (.cells (dgC b) 26))
  rw [← HWA.out]
  go_wp2_with fail
  go_loopw [5] (fun vk wr => ∃ k : Nat, k ≤ 16 ∧ vk = .int .i64 k ∧ Below wa.heap.size wa wr ∧ Hid (V = ltD ((dg a).drop k) ((dg b).drop k))) (fun vk _ => 16 - (intOf vk).toNat)
  case atStart => exact ⟨0, Nat.zero_le _, rfl, Below.refl _ _, HV0⟩
  case round =>
    obtain ⟨k, hk, rfl, hbw, HV⟩ := hrel
    replace q0 := q0.below hbw
    replace q1 := q1.below hbw
    replace hb0 := bstep hb0 hbw
    by_cases hlt : k < 16
    · have hka : k < (dg a).length := by rw [dg_len]; exact hlt
      have hkb : k < (dg b).length := by rw [dg_len]; exact hlt
      have c0 := q0.cell k
      have c1 := q1.cell k
      simp only [dgC, List.getElem?_toArray, bv, List.getElem?_map, List.getElem?_eq_getElem hka, List.getElem?_eq_getElem hkb, Option.map_some] at c0 c1
      have hv := HV.out
      rw [List.drop_eq_getElem_cons hka, List.drop_eq_getElem_cons hkb] at hv
      simp only [ltD] at hv
      generalize (dg a)[k] = x at *
      generalize (dg b)[k] = y at *
      by_cases hxy : x = y
      · rw [if_pos hxy] at hv
        have HN := Lib.hid hv
        have dn : (((x.toNat : Nat) : Int) != ((y.toNat : Nat) : Int)) = false := by rw [hxy]; simp
        clear hv hxy HV
        go_upto_region 4 with fail
        refine wp_region_T 7 (by kernel_rfl) ?_
        refine WpT.take (i := 0) rfl (by kernel_rfl) (fun _ _ _ h => h) (.inl ⟨by rfl, fun w hSw => by clear hSw; go_simp; (try go_bits); (try rw [if_pos (by omega)]); (try with_reducible rfl)⟩) ((Below.refl _ _).drew) ?_
        try simp only [nrm]
        refine WpT.take (i := 1) rfl (by kernel_rfl) (fun _ _ _ h => h) (.inl ⟨by rfl, fun w hSw => by clear hSw; go_simp; (try go_bits); (try rw [if_pos (by omega)]); (try with_reducible rfl)⟩) ((Below.refl _ _).drew) ?_
        try simp only [nrm]
        refine WpT.take (i := 2) rfl (by kernel_rfl) (fun _ _ _ h => h) (yields_load rfl rfl rfl (by kernel_rfl) c0) ((Below.refl _ _).drew) ?_
        try simp only [nrm]
        refine WpT.take (i := 3) rfl (by kernel_rfl) (fun _ _ _ h => h) (.inl ⟨by rfl, fun w hSw => by clear hSw; go_simp; (try go_bits); (try rw [if_pos (by omega)]); (try with_reducible rfl)⟩) ((Below.refl _ _).drew) ?_
        try simp only [nrm]
        refine WpT.take (i := 4) rfl (by kernel_rfl) (fun _ _ _ h => h) (.inl ⟨by rfl, fun w hSw => by clear hSw; go_simp; (try go_bits); (try rw [if_pos (by omega)]); (try with_reducible rfl)⟩) ((Below.refl _ _).drew) ?_
        try simp only [nrm]
        refine WpT.take (i := 5) rfl (by kernel_rfl) (fun _ _ _ h => h) (yields_load rfl rfl rfl (by kernel_rfl) c1) ((Below.refl _ _).drew) ?_
        try simp only [nrm]
        refine WpT.take (i := 6) rfl (by kernel_rfl) (fun _ _ _ h => h) (.inl ⟨by rfl, fun w hSw => by clear hSw; go_simp; (try go_bits); (try rw [if_pos (by omega)]); (try with_reducible rfl)⟩) ((Below.refl _ _).drew) ?_
        try simp only [nrm]
        refine WpT.done (by kernel_rfl) ?_ _
        go_wp2_with fail
        exact ⟨⟨k + 1, by omega, by go_num, hbw.drew, HN⟩, by simp [intOf]; omega⟩
      · rw [if_neg hxy] at hv
        have hxn : x.toNat ≠ y.toNat := fun h => hxy (UInt8.toNat_inj.1 h)
        have dn : (((x.toNat : Nat) : Int) != ((y.toNat : Nat) : Int)) = true := by simp; omega
        have HN : Hid (V = decide (x.toNat < y.toNat)) := Lib.hid (by rw [hv, Bool.eq_iff_iff, decide_eq_true_eq, decide_eq_true_eq, UInt8.lt_iff_toNat_lt])
        clear hv hxy HV hxn
        go_upto_region 4 with fail
        refine wp_region_T 7 (by kernel_rfl) ?_
        refine WpT.take (i := 0) rfl (by kernel_rfl) (fun _ _ _ h => h) (.inl ⟨by rfl, fun w hSw => by clear hSw; go_simp; (try go_bits); (try rw [if_pos (by omega)]); (try with_reducible rfl)⟩) ((Below.refl _ _).drew) ?_
        try simp only [nrm]
        refine WpT.take (i := 1) rfl (by kernel_rfl) (fun _ _ _ h => h) (.inl ⟨by rfl, fun w hSw => by clear hSw; go_simp; (try go_bits); (try rw [if_pos (by omega)]); (try with_reducible rfl)⟩) ((Below.refl _ _).drew) ?_
        try simp only [nrm]
        refine WpT.take (i := 2) rfl (by kernel_rfl) (fun _ _ _ h => h) (yields_load rfl rfl rfl (by kernel_rfl) c0) ((Below.refl _ _).drew) ?_
        try simp only [nrm]
        refine WpT.take (i := 3) rfl (by kernel_rfl) (fun _ _ _ h => h) (.inl ⟨by rfl, fun w hSw => by clear hSw; go_simp; (try go_bits); (try rw [if_pos (by omega)]); (try with_reducible rfl)⟩) ((Below.refl _ _).drew) ?_
        try simp only [nrm]
        refine WpT.take (i := 4) rfl (by kernel_rfl) (fun _ _ _ h => h) (.inl ⟨by rfl, fun w hSw => by clear hSw; go_simp; (try go_bits); (try rw [if_pos (by omega)]); (try with_reducible rfl)⟩) ((Below.refl _ _).drew) ?_
        try simp only [nrm]
        refine WpT.take (i := 5) rfl (by kernel_rfl) (fun _ _ _ h => h) (yields_load rfl rfl rfl (by kernel_rfl) c1) ((Below.refl _ _).drew) ?_
        try simp only [nrm]
        refine WpT.take (i := 6) rfl (by kernel_rfl) (fun _ _ _ h => h) (.inl ⟨by rfl, fun w hSw => by clear hSw; go_simp; (try go_bits); (try rw [if_pos (by omega)]); (try with_reducible rfl)⟩) ((Below.refl _ _).drew) ?_
        try simp only [nrm]
        refine WpT.done (by kernel_rfl) ?_ _
        go_upto_region 5 with fail
        refine wp_region_T 7 (by kernel_rfl) ?_
        refine WpT.take (i := 0) rfl (by kernel_rfl) (fun _ _ _ h => h) (.inl ⟨by rfl, fun w hSw => by clear hSw; go_simp; (try go_bits); (try rw [if_pos (by omega)]); (try with_reducible rfl)⟩) ((Below.refl _ _).drew) ?_
        try simp only [nrm]
        refine WpT.take (i := 1) rfl (by kernel_rfl) (fun _ _ _ h => h) (.inl ⟨by rfl, fun w hSw => by clear hSw; go_simp; (try go_bits); (try rw [if_pos (by omega)]); (try with_reducible rfl)⟩) ((Below.refl _ _).drew) ?_
        try simp only [nrm]
        refine WpT.take (i := 2) rfl (by kernel_rfl) (fun _ _ _ h => h) (yields_load rfl rfl rfl (by kernel_rfl) c0) ((Below.refl _ _).drew) ?_
        try simp only [nrm]
        refine WpT.take (i := 3) rfl (by kernel_rfl) (fun _ _ _ h => h) (.inl ⟨by rfl, fun w hSw => by clear hSw; go_simp; (try go_bits); (try rw [if_pos (by omega)]); (try with_reducible rfl)⟩) ((Below.refl _ _).drew) ?_
        try simp only [nrm]
        refine WpT.take (i := 4) rfl (by kernel_rfl) (fun _ _ _ h => h) (.inl ⟨by rfl, fun w hSw => by clear hSw; go_simp; (try go_bits); (try rw [if_pos (by omega)]); (try with_reducible rfl)⟩) ((Below.refl _ _).drew) ?_
        try simp only [nrm]
        refine WpT.take (i := 5) rfl (by kernel_rfl) (fun _ _ _ h => h) (yields_load rfl rfl rfl (by kernel_rfl) c1) ((Below.refl _ _).drew) ?_
        try simp only [nrm]
        refine WpT.take (i := 6) rfl (by kernel_rfl) (fun _ _ _ h => h) (.inl ⟨by rfl, fun w hSw => by clear hSw; go_simp; (try go_bits); (try rw [if_pos (by omega)]); (try with_reducible rfl)⟩) ((Below.refl _ _).drew) ?_
        try simp only [nrm]
        refine WpT.tail (i := 7) rfl (by kernel_rfl) (by kernel_rfl) (fun K hK => ?_)
        go_simp; (try go_bits)
        refine hK _ _ ?_; clear hK K; try simp only [nrm]
        refine WpT.done (by kernel_rfl) ?_ _
        go_wp2_with fail
        go_ret
        exact ⟨by rw [HN.out]; rfl, hb0.drew.drew⟩
    · obtain rfl : k = 16 := by omega
      have hv := HV.out
      rw [List.drop_of_length_le (by rw [dg_len]; omega), List.drop_of_length_le (by rw [dg_len]; omega)] at hv
      rw [show ltD [] [] = false from rfl] at hv
      subst hv
      clear HV HV0
      go_wp2_with fail
      go_ret
      exact ⟨rfl, hb0⟩
set_option maxRecDepth 20000 in
set_option maxHeartbeats 1000000 in
theorem refRight_any (v : Nat) (len : Int) (w : World) (hv : v < 2 ^ 128) : Calls Tryd.prog 15 #[pxV v len] w fun e w' => e = .returned (.bool (rightB v len)) ∧ Below w.heap.size w w' := by
  obtain ⟨wa, hwa, hb0, q0⟩ := pxBox1 w v len
  have HWA := Lib.hid hwa
  clear hwa
  have c16 := q0.pxN
  by_cases h0 : len < 0
  · have d0 : decide (len < 0) = true := by simpa using h0
    have hf : rightB v len = false := by unfold rightB; rw [show decide (0 ≤ len) = false by simpa using h0]; rfl
    rw [hf]
    clear hf h0
    go_enter Tryd.func15, Tryd.ntmps15
    go_upto_region 1 with (fail)
    change Code.wp _ _ _ _ (w.alloc (.cells (pxC v len) 28))
    rw [← HWA.out]
    go_wp2_with fail
    go_ret
    exact ⟨rfl, hb0⟩
  have d0 : decide (len < 0) = false := by simpa using h0
  by_cases h1 : 128 < len
  · have d1 : decide (128 < len) = true := by simpa using h1
    have hf : rightB v len = false := by unfold rightB; rw [show decide (len ≤ 128) = false by simpa using h1]; simp
    rw [hf]
    clear hf h0 h1
    go_enter Tryd.func15, Tryd.ntmps15
    go_upto_region 1 with (fail)
    change Code.wp _ _ _ _ (w.alloc (.cells (pxC v len) 28))
    rw [← HWA.out]
    go_wp2_with fail
    go_ret
    exact ⟨rfl, hb0⟩
  have d1 : decide (128 < len) = false := by simpa using h1
  obtain ⟨m, rfl⟩ := Int.eq_ofNat_of_zero_le (show 0 ≤ len by omega)
  have hm : m ≤ 128 := by omega
  have HV0 : Hid (rightB v m = true ↔ ∀ j, m ≤ j → j < 128 → v.testBit (127 - j) = false) := Lib.hid (by
    rw [rightB_iff hv]
    have h := right_bits (p := ⟨v, m⟩) hm hv
    rw [← show ((⟨v, m⟩ : Px).len) = m from rfl, h]
    exact ⟨fun h => h.2, fun h => ⟨by omega, h⟩⟩)
  have HB := Lib.hid (fun k W hk => bit_any v k W hv hk)
  generalize rightB v m = V at *
  clear h0 h1
  go_enter Tryd.func15, Tryd.ntmps15
  go_upto_region 1 with (fail)
  change Code.wp _ _ _ _ (w.alloc (.cells (pxC v m) 28))
  rw [← HWA.out]
  go_wp2_with fail
  go_loopw [3] (fun vk wr => ∃ k : Nat, m ≤ k ∧ k ≤ 128 ∧ vk = .int .i64 k ∧ Below wa.heap.size wa wr ∧ Hid (V = true ↔ ∀ j, k ≤ j → j < 128 → v.testBit (127 - j) = false)) (fun vk _ => 128 - (intOf vk).toNat)
  case atStart => exact ⟨m, Nat.le_refl _, hm, rfl, Below.refl _ _, HV0⟩
  case round =>
    obtain ⟨k, hmk, hk, rfl, hbw, HV⟩ := hrel
    replace q0 := q0.below hbw
    replace hb0 := bstep hb0 hbw
    clear c16
    by_cases hlt : k < 128
    · go_wp2_with ((with_reducible show wpList _ _ _ _ _ _); refine wpList_loadK (us := bv (dg v)) rfl rfl rfl aggDg (by rw [sizeDg, bv_dg_len]) q0.pxD ?_)
      refine (HB.out k _ hlt).mono ?_
      rintro e w3 ⟨rfl, hb3⟩
      cases hbit : v.testBit (127 - k)
      · go_wp2_with fail
        exact ⟨⟨k + 1, by omega, by omega, by go_num, bstep hbw hb3, Lib.hid (HV.out.trans ⟨fun h j hj h2 => h j (by omega) h2, fun h j hj h2 => by
          by_cases e : j = k
          · rw [e]; exact hbit
          · exact h j (by omega) h2⟩)⟩, by simp [intOf]; omega⟩
      · have hvf : V = false := by
          rw [Bool.eq_false_iff]
          intro h
          have := (HV.out.1 h) k (Nat.le_refl _) hlt
          rw [hbit] at this
          cases this
        subst hvf
        clear HV HV0
        go_wp2_with fail
        go_ret
        exact ⟨rfl, bstep hb0 hb3⟩
    · obtain rfl : k = 128 := by omega
      have hvt : V = true := HV.out.2 (fun j h1 h2 => by omega)
      subst hvt
      clear HV HV0
      go_wp2_with fail
      go_ret
      exact ⟨rfl, hb0⟩
set_option maxRecDepth 20000 in
set_option maxHeartbeats 1000000 in
theorem refUnder_any (p : Px) (n : Nat) (w : World) (hp : Right p) (hn : n < 2 ^ 128) : Calls Tryd.prog 24 #[pxV p.v p.len, dgV n] w fun e w' => e = .returned (.bool (under p n)) ∧ Below w.heap.size w w' := by
  obtain ⟨wa, hwa, hb0, q0, q1⟩ := pxBox w p.v p.len n
  have HWA := Lib.hid hwa
  clear hwa
  have hm := hp.len
  have HV0 : Hid (under p n = true ↔ ∀ j, 0 ≤ j → j < p.len → p.v.testBit (127 - j) = n.testBit (127 - j)) := Lib.hid (by
    rw [← under_bits hp.len hp.lt hn]
    exact ⟨fun h j _ hj => h j hj, fun h j hj => h j (Nat.zero_le _) hj⟩)
  have HB0 := Lib.hid (fun k W hk => bit_any p.v k W hp.lt hk)
  have HB1 := Lib.hid (fun k W hk => bit_any n k W hn hk)
  generalize under p n = V at *
  clear hp hn
  go_enter Tryd.func24, Tryd.ntmps24
  go_upto_region 1 with (fail)
  change Code.wp _ _ _ _ ((w.alloc (.cells (pxC p.v p.len) 28)).alloc (.cells (dgC n) 26))
  rw [← HWA.out]
  go_wp2_with fail
  go_loopw [5] (fun vk wr => ∃ k : Nat, k ≤ p.len ∧ vk = .int .i64 k ∧ Below wa.heap.size wa wr ∧ Hid (V = true ↔ ∀ j, k ≤ j → j < p.len → p.v.testBit (127 - j) = n.testBit (127 - j))) (fun vk _ => p.len - (intOf vk).toNat)
  case atStart => exact ⟨0, Nat.zero_le _, rfl, Below.refl _ _, HV0⟩
  case round =>
    obtain ⟨k, hk, rfl, hbw, HV⟩ := hrel
    replace q0 := q0.below hbw
    replace q1 := q1.below hbw
    replace hb0 := bstep hb0 hbw
    have c16 := q0.pxN
    by_cases hlt : k < p.len
    · have hk8 : k < 128 := by omega
      have hS : Below wr.heap.size wr wr.drew := (Below.refl _ wr).drew
      have HX := Lib.hid (HB0.out k · hk8)
      have HY := Lib.hid (HB1.out k · hk8)
      cases hbit : (p.v.testBit (127 - k) != n.testBit (127 - k))
      · have hbe : p.v.testBit (127 - k) = n.testBit (127 - k) := by simpa using hbit
        have HN : Hid (V = true ↔ ∀ j, k + 1 ≤ j → j < p.len → p.v.testBit (127 - j) = n.testBit (127 - j)) := Lib.hid (HV.out.trans ⟨fun h j hj h2 => h j (by omega) h2, fun h j hj h2 => by
          by_cases e : j = k
          · rw [e]; exact hbe
          · exact h j (by omega) h2⟩)
        clear HV HV0 hbe
        generalize p.v.testBit (127 - k) = x at *
        generalize n.testBit (127 - k) = y at *
        have hbit2 : (x == y) = true := by cases x <;> cases y <;> simp_all
        go_upto_region 4 with fail
        refine wp_region_TB (S := Below (wr).heap.size (wr)) 8 (by kernel_rfl) ?_
        refine WpT.take (i := 0) rfl (by kernel_rfl) (fun _ _ _ h => h) (.inl ⟨by rfl, fun w hSw => by clear hSw; go_simp; (try go_bits); (try rw [if_pos (by omega)]); (try with_reducible rfl)⟩) (hS) ?_
        try simp only [nrm]
        refine WpT.take (i := 1) rfl (by kernel_rfl) (fun _ _ _ h => h) (yields_loadK (us := bv (dg p.v)) rfl rfl rfl aggDg (by rw [sizeDg, bv_dg_len]) q0.pxD) (hS) ?_
        try simp only [nrm]
        refine WpT.take (i := 2) rfl (by kernel_rfl) (fun _ _ _ h => h) (.inl ⟨by rfl, fun w hSw => by clear hSw; go_simp; (try go_bits); (try rw [if_pos (by omega)]); (try with_reducible rfl)⟩) (hS) ?_
        try simp only [nrm]
        refine WpT.take (i := 4) rfl (by kernel_rfl) (fun _ _ _ h => h) (yields_blk rfl rfl rfl aggDg (by rw [sizeDg, dgC_size]) q1) (hS) ?_
        try simp only [nrm]
        refine WpT.take (i := 5) rfl (by kernel_rfl) (fun _ _ _ h => h) (.inl ⟨by rfl, fun w hSw => by clear hSw; go_simp; (try go_bits); (try rw [if_pos (by omega)]); (try with_reducible rfl)⟩) (hS) ?_
        try simp only [nrm]
        refine WpT.one (i := 3) rfl (by kernel_rfl) (fun K hK => ?_)
        go_simp; refine (HX.out _).mono ?_; rintro e w3 ⟨rfl, hb3⟩; replace hS := bstep hS hb3
        refine hK _ _ (hS) ?_; clear hK K; try simp only [nrm]
        refine WpT.one (i := 6) rfl (by kernel_rfl) (fun K hK => ?_)
        go_simp; refine (HY.out _).mono ?_; rintro e w4 ⟨rfl, hb4⟩; replace hS := bstep hS hb4
        refine hK _ _ (hS) ?_; clear hK K; try simp only [nrm]
        refine WpT.take (i := 7) rfl (by kernel_rfl) (fun _ _ _ h => h) (.inl ⟨by rfl, fun w hSw => by clear hSw; go_simp; (try go_bits); (try rw [if_pos (by omega)]); (try with_reducible rfl)⟩) (hS) ?_
        try simp only [nrm]
        refine WpT.done (by kernel_rfl) ?_ _
        go_wp2_with fail; exact ⟨⟨k + 1, by omega, by go_num, bstep hbw hS, HN⟩, by simp [intOf]; omega⟩
      · have hvf : V = false := by
          rw [Bool.eq_false_iff]
          intro h
          have := (HV.out.1 h) k (Nat.le_refl _) hlt
          rw [this] at hbit
          simp at hbit
        subst hvf
        clear HV HV0
        generalize p.v.testBit (127 - k) = x at *
        generalize n.testBit (127 - k) = y at *
        have hbit2 : (x == y) = false := by cases x <;> cases y <;> simp_all
        go_upto_region 4 with fail
        refine wp_region_TB (S := Below (wr).heap.size (wr)) 8 (by kernel_rfl) ?_
        refine WpT.take (i := 0) rfl (by kernel_rfl) (fun _ _ _ h => h) (.inl ⟨by rfl, fun w hSw => by clear hSw; go_simp; (try go_bits); (try rw [if_pos (by omega)]); (try with_reducible rfl)⟩) (hS) ?_
        try simp only [nrm]
        refine WpT.take (i := 1) rfl (by kernel_rfl) (fun _ _ _ h => h) (yields_loadK (us := bv (dg p.v)) rfl rfl rfl aggDg (by rw [sizeDg, bv_dg_len]) q0.pxD) (hS) ?_
        try simp only [nrm]
        refine WpT.take (i := 2) rfl (by kernel_rfl) (fun _ _ _ h => h) (.inl ⟨by rfl, fun w hSw => by clear hSw; go_simp; (try go_bits); (try rw [if_pos (by omega)]); (try with_reducible rfl)⟩) (hS) ?_
        try simp only [nrm]
        refine WpT.take (i := 4) rfl (by kernel_rfl) (fun _ _ _ h => h) (yields_blk rfl rfl rfl aggDg (by rw [sizeDg, dgC_size]) q1) (hS) ?_
        try simp only [nrm]
        refine WpT.take (i := 5) rfl (by kernel_rfl) (fun _ _ _ h => h) (.inl ⟨by rfl, fun w hSw => by clear hSw; go_simp; (try go_bits); (try rw [if_pos (by omega)]); (try with_reducible rfl)⟩) (hS) ?_
        try simp only [nrm]
        refine WpT.one (i := 3) rfl (by kernel_rfl) (fun K hK => ?_)
        go_simp; refine (HX.out _).mono ?_; rintro e w3 ⟨rfl, hb3⟩; replace hS := bstep hS hb3
        refine hK _ _ (hS) ?_; clear hK K; try simp only [nrm]
        refine WpT.one (i := 6) rfl (by kernel_rfl) (fun K hK => ?_)
        go_simp; refine (HY.out _).mono ?_; rintro e w4 ⟨rfl, hb4⟩; replace hS := bstep hS hb4
        refine hK _ _ (hS) ?_; clear hK K; try simp only [nrm]
        refine WpT.take (i := 7) rfl (by kernel_rfl) (fun _ _ _ h => h) (.inl ⟨by rfl, fun w hSw => by clear hSw; go_simp; (try go_bits); (try rw [if_pos (by omega)]); (try with_reducible rfl)⟩) (hS) ?_
        try simp only [nrm]
        refine WpT.done (by kernel_rfl) ?_ _
        go_wp2_with fail; go_ret; exact ⟨rfl, bstep hb0 hS⟩
    · obtain rfl : k = p.len := by omega
      have hvt : V = true := HV.out.2 (fun j h1 h2 => by omega)
      subst hvt
      clear HV HV0
      go_wp2_with fail
      go_ret
      exact ⟨rfl, hb0⟩
end Go.Proofs.YtieamjjnofelcaaDoor
namespace Go.Proofs.YtieamjjnofelcaaDoor
set_option linter.unusedSimpArgs false
set_option linter.unusedVariables false
namespace Sha
def add32 (a b : Nat) : Nat := (a + b) % 4294967296
def xor32 (a b : Nat) : Nat := (a % 4294967296) ^^^ (b % 4294967296)
def and32 (a b : Nat) : Nat := (a % 4294967296) &&& (b % 4294967296)
def or32 (a b : Nat) : Nat := (a % 4294967296) ||| (b % 4294967296)
def shr32 (a k : Nat) : Nat := a / 2 ^ k
def shl32 (a k : Nat) : Nat := a * 2 ^ k % 4294967296
def not32 (a : Nat) : Nat := xor32 a 4294967295
def rotr (a k : Nat) : Nat := or32 (shr32 a k) (shl32 a (32 - k))
theorem add32_lt (a b : Nat) : add32 a b < 4294967296 := Nat.mod_lt _ (by decide)
theorem xor32_lt (a b : Nat) : xor32 a b < 4294967296 := Nat.xor_lt_two_pow (n := 32) (Nat.mod_lt _ (by decide)) (Nat.mod_lt _ (by decide))
theorem and32_lt (a b : Nat) : and32 a b < 4294967296 := Nat.lt_of_le_of_lt Nat.and_le_left (Nat.mod_lt _ (by decide))
theorem or32_lt (a b : Nat) : or32 a b < 4294967296 := Nat.or_lt_two_pow (n := 32) (Nat.mod_lt _ (by decide)) (Nat.mod_lt _ (by decide))
theorem shl32_lt (a k : Nat) : shl32 a k < 4294967296 := Nat.mod_lt _ (by decide)
theorem rotr_lt (a k : Nat) : rotr a k < 4294967296 := or32_lt _ _
theorem or32_comm (a b : Nat) : or32 a b = or32 b a := Nat.or_comm _ _

def K : List Nat := [
  1116352408, 1899447441, 3049323471, 3921009573, 961987163, 1508970993, 2453635748, 2870763221, 3624381080, 310598401, 607225278, 1426881987, 1925078388, 2162078206, 2614888103, 3248222580,
  3835390401, 4022224774, 264347078, 604807628, 770255983, 1249150122, 1555081692, 1996064986, 2554220882, 2821834349, 2952996808, 3210313671, 3336571891, 3584528711, 113926993, 338241895,
  666307205, 773529912, 1294757372, 1396182291, 1695183700, 1986661051, 2177026350, 2456956037, 2730485921, 2820302411, 3259730800, 3345764771, 3516065817, 3600352804, 4094571909, 275423344,
  430227734, 506948616, 659060556, 883997877, 958139571, 1322822218, 1537002063, 1747873779, 1955562222, 2024104815, 2227730452, 2361852424, 2428436474, 2756734187, 3204031479, 3329325298]

/-- Eight words. -/
structure S8 where
  a : Nat
  b : Nat
  c : Nat
  d : Nat
  e : Nat
  f : Nat
  g : Nat
  h : Nat
def H0 : S8 := ⟨1779033703, 3144134277, 1013904242, 2773480762, 1359893119, 2600822924, 528734635, 1541459225⟩
def S8.list (s : S8) : List Nat := [s.a, s.b, s.c, s.d, s.e, s.f, s.g, s.h]

/-- A word of four bytes, as the program makes it. -/
def wordN (b : List UInt8) (t : Nat) : Nat → Nat
  | 0 => 0
  | j + 1 => or32 (shl32 (wordN b t j) 8) (b.getD (4 * t + j) 0).toNat
def word4 (b : List UInt8) (t : Nat) : Nat := wordN b t 4
def sig0 (p : Nat) : Nat := xor32 (xor32 (rotr p 7) (rotr p 18)) (shr32 p 3)
def sig1 (q : Nat) : Nat := xor32 (xor32 (rotr q 17) (rotr q 19)) (shr32 q 10)
def next (l : List Nat) (t : Nat) : Nat := add32 (add32 (add32 (l.getD (t - 16) 0) (sig0 (l.getD (t - 15) 0))) (l.getD (t - 7) 0)) (sig1 (l.getD (t - 2) 0))
/-- The first t words of a block's schedule. -/
def sched (b : List UInt8) : Nat → List Nat
  | 0 => []
  | t + 1 => sched b t ++ [if t < 16 then word4 b t else next (sched b t) t]
theorem length_sched (b : List UInt8) (t : Nat) : (sched b t).length = t := by
  induction t with
  | zero => rfl
  | succ t ih => simp [sched, ih]

def mix (x i j k : Nat) : Nat := xor32 (xor32 (rotr x i) (rotr x j)) (rotr x k)
def xOf (k w : Nat) (s : S8) : Nat := add32 (add32 (add32 (add32 s.h (mix s.e 6 11 25)) (xor32 (and32 s.e s.f) (and32 (not32 s.e) s.g))) k) w
def yOf (s : S8) : Nat := add32 (mix s.a 2 13 22) (xor32 (xor32 (and32 s.a s.b) (and32 s.a s.c)) (and32 s.b s.c))
def rnd (k w : Nat) (s : S8) : S8 := ⟨add32 (xOf k w s) (yOf s), s.a, s.b, s.c, add32 s.d (xOf k w s), s.e, s.f, s.g⟩
def rounds (W : List Nat) (s : S8) : Nat → S8
  | 0 => s
  | t + 1 => rnd (K.getD t 0) (W.getD t 0) (rounds W s t)
def plus8 (s v : S8) : S8 := ⟨add32 s.a v.a, add32 s.b v.b, add32 s.c v.c, add32 s.d v.d, add32 s.e v.e, add32 s.f v.f, add32 s.g v.g, add32 s.h v.h⟩
/-- One block. -/
def comp (s : S8) (b : List UInt8) : S8 := plus8 s (rounds (sched b 64) s 64)
/-- The hash value after k blocks of m. -/
def stN (m : List UInt8) : Nat → S8
  | 0 => H0
  | k + 1 => comp (stN m k) ((m.drop (64 * k)).take 64)
theorem stN_append (m x : List UInt8) (k : Nat) (h : 64 * k ≤ m.length) : stN (m ++ x) k = stN m k := by
  induction k with
  | zero => rfl
  | succ k ih =>
    rw [stN, stN, ih (by omega)]
    congr 1
    rw [List.drop_append_of_le_length (by omega), List.take_append_of_le_length (by rw [List.length_drop]; omega)]
/-- The zero bytes of the padding of n bytes. -/
def zeros (n : Nat) : Nat := (119 - n % 64) % 64
def lenByte (n i : Nat) : UInt8 := UInt8.ofNat (8 * n / 2 ^ (56 - 8 * i))
def lenBytes (n : Nat) : Nat → List UInt8
  | 0 => []
  | i + 1 => lenBytes n i ++ [lenByte n i]
def pad (n : Nat) : List UInt8 := (128 :: List.replicate (zeros n) 0) ++ lenBytes n 8
theorem length_lenBytes (n i : Nat) : (lenBytes n i).length = i := by
  induction i with
  | zero => rfl
  | succ i ih => simp [lenBytes, ih]
theorem length_pad (n : Nat) : (n + (pad n).length) % 64 = 0 := by
  simp only [pad, List.length_append, List.length_cons, List.length_replicate, length_lenBytes, zeros]
  omega
def digByte (s : S8) (i : Nat) : UInt8 := UInt8.ofNat (s.list.getD (i / 4) 0 / 2 ^ (24 - 8 * (i % 4)))
def dig (s : S8) : Nat → List UInt8
  | 0 => []
  | i + 1 => dig s i ++ [digByte s i]
theorem length_dig (s : S8) (i : Nat) : (dig s i).length = i := by
  induction i with
  | zero => rfl
  | succ i ih => simp [dig, ih]
def final (m : List UInt8) : S8 := stN (m ++ pad m.length) ((m ++ pad m.length).length / 64)
def sha (m : List UInt8) : List UInt8 := dig (final m) 32
theorem length_sha (m : List UInt8) : (sha m).length = 32 := length_dig _ _

theorem abc_ok : (sha [97, 98, 99]).map UInt8.toNat = [0xba, 0x78, 0x16, 0xbf, 0x8f, 0x01, 0xcf, 0xea, 0x41, 0x41, 0x40, 0xde, 0x5d, 0xae, 0x22, 0x23, 0xb0, 0x03, 0x61, 0xa3, 0x96, 0x17, 0x7a, 0x9c, 0xb4, 0x10, 0xff, 0x61, 0xf2, 0x00, 0x15, 0xad] := by decide +kernel
end Sha
end Go.Proofs.YtieamjjnofelcaaDoor
namespace Go.Proofs.YtieamjjnofelcaaDoor
set_option linter.unusedSimpArgs false
set_option linter.unusedVariables false
open Go.RowKit Sha

theorem ofInt32 (a : Nat) : (BitVec.ofInt 32 (a : Int)).toNat = a % 4294967296 := by
  rw [BitVec.ofInt_natCast, BitVec.toNat_ofNat]
theorem w_xor (a b : Nat) : bits .xor .u32 (a : Int) (b : Int) = ((xor32 a b : Nat) : Int) := by
  show IntKind.u32.wrap ((BitVec.ofInt 32 (a : Int) ^^^ BitVec.ofInt 32 (b : Int)).toNat : Int) = _
  rw [BitVec.toNat_xor, ofInt32, ofInt32, IntKind.wrap_u32]
  have := xor32_lt a b
  unfold xor32 at *
  omega
theorem w_and (a b : Nat) : bits .and .u32 (a : Int) (b : Int) = ((and32 a b : Nat) : Int) := by
  show IntKind.u32.wrap ((BitVec.ofInt 32 (a : Int) &&& BitVec.ofInt 32 (b : Int)).toNat : Int) = _
  rw [BitVec.toNat_and, ofInt32, ofInt32, IntKind.wrap_u32]
  have := and32_lt a b
  unfold and32 at *
  omega
theorem w_or (a b : Nat) : bits .or .u32 (a : Int) (b : Int) = ((or32 a b : Nat) : Int) := by
  show IntKind.u32.wrap ((BitVec.ofInt 32 (a : Int) ||| BitVec.ofInt 32 (b : Int)).toNat : Int) = _
  rw [BitVec.toNat_or, ofInt32, ofInt32, IntKind.wrap_u32]
  have := or32_lt a b
  unfold or32 at *
  omega
theorem w_xorf (a : Nat) : bits .xor .u32 (a : Int) 4294967295 = ((not32 a : Nat) : Int) := w_xor a 4294967295
theorem w_add (a b : Nat) : IntKind.u32.wrap ((a : Int) + (b : Int)) = ((add32 a b : Nat) : Int) := by
  rw [IntKind.wrap_u32]; unfold add32; omega
theorem w_shr (a k : Nat) : (a : Int) / 2 ^ k = ((shr32 a k : Nat) : Int) := by unfold shr32; simp
theorem w_shl (a k : Nat) : IntKind.u32.wrap ((a : Int) * 2 ^ k) = ((shl32 a k : Nat) : Int) := by
  rw [IntKind.wrap_u32]; unfold shl32; simp

set_option maxHeartbeats 400000 in
/-- A rotation to the right by i, as the program asks for it. -/
theorem rotl_any (x : Nat) (i : Nat) (w : World) (h0 : 1 ≤ i) (h1 : i ≤ 31) (hx : x < 4294967296) :
    Calls Tryd.prog 89 #[.int .u32 (x : Nat), .int .i64 (-(i : Int))] w fun e w' => e = .returned (.int .u32 ((rotr x i : Nat) : Int)) ∧ w = w' := by
  have hk : bits .and .u64 (IntKind.u64.wrap (-(i : Int))) 31 = ((32 - i : Nat) : Int) := by
    rw [IntKind.wrap_u64, show (-(i : Int)) % 18446744073709551616 = ((18446744073709551616 - i : Nat) : Int) by omega, show (31 : Int) = ((31 : Nat) : Int) from rfl, u64_and_nat _ _ (by omega) (by omega), nat_mask5]
    omega
  have hfin : bits .or .u32 ((x : Int) * 2 ^ (32 - i) % 4294967296) ((x : Int) / 2 ^ (32 - (32 - i))) = ((rotr x i : Nat) : Int) := by
    have e1 : (x : Int) * 2 ^ (32 - i) % 4294967296 = ((shl32 x (32 - i) : Nat) : Int) := by rw [← w_shl, IntKind.wrap_u32]
    rw [e1, w_shr, w_or, or32_comm, show 32 - (32 - i) = i by omega]; rfl
  generalize rotr x i = r at *
  go_enter Tryd.func89, Tryd.ntmps89
  go_wp2
  go_ret
  exact ⟨rfl, rfl⟩
set_option maxHeartbeats 400000 in
theorem refRotr_any (x : Nat) (i : Nat) (w : World) (h0 : 1 ≤ i) (h1 : i ≤ 31) (hx : x < 4294967296) :
    Calls Tryd.prog 86 #[.int .u32 (x : Nat), .int .i64 (i : Int)] w fun e w' => e = .returned (.int .u32 ((rotr x i : Nat) : Int)) ∧ Below w.heap.size w w' := by
  have hfin : bits .or .u32 ((x : Int) / 2 ^ i) ((x : Int) * 2 ^ (32 - i) % 4294967296) = ((rotr x i : Nat) : Int) := by
    have e1 : (x : Int) * 2 ^ (32 - i) % 4294967296 = ((shl32 x (32 - i) : Nat) : Int) := by rw [← w_shl, IntKind.wrap_u32]
    rw [e1, w_shr, w_or]; rfl
  generalize rotr x i = r at *
  go_enter Tryd.func86, Tryd.ntmps86
  go_wp2
  go_quiet (fail)
  go_wp2
  go_ret
  exact ⟨rfl, ⟨rfl, rfl, rfl, Nat.le_refl _, fun _ _ => rfl⟩⟩

theorem rotl_int (x k : Int) (i : Nat) (w : World) (hk : k = -(i : Int)) (h0 : 1 ≤ i) (h1 : i ≤ 31) (hx0 : 0 ≤ x) (hx : x < 4294967296) :
    Calls Tryd.prog 89 #[.int .u32 x, .int .i64 k] w fun e w' => e = .returned (.int .u32 ((rotr x.toNat i : Nat) : Int)) ∧ w = w' := by
  obtain ⟨n, rfl⟩ := Int.eq_ofNat_of_zero_le hx0
  subst hk
  exact rotl_any n i w h0 h1 (by omega)
set_option maxHeartbeats 400000 in
theorem mix_any (x : Nat) (i j k : Nat) (w : World) (hx : x < 4294967296) (hi0 : 1 ≤ i) (hi1 : i ≤ 31) (hj0 : 1 ≤ j) (hj1 : j ≤ 31) (hk0 : 1 ≤ k) (hk1 : k ≤ 31) :
    Calls Tryd.prog 83 #[.int .u32 (x : Nat), .int .i64 (i : Int), .int .i64 (j : Int), .int .i64 (k : Int)] w fun e w' => e = .returned (.int .u32 ((mix x i j k : Nat) : Int)) ∧ w = w' := by
  have hfin : bits .xor .u32 (bits .xor .u32 ((rotr x i : Nat) : Int) ((rotr x j : Nat) : Int)) ((rotr x k : Nat) : Int) = ((mix x i j k : Nat) : Int) := by
    rw [w_xor, w_xor]; rfl
  have r1 := rotr_lt x i
  have r2 := rotr_lt x j
  have r3 := rotr_lt x k
  generalize mix x i j k = m at *
  have c1 := fun w => rotl_any x i w hi0 hi1 hx
  have c2 := fun w => rotl_any x j w hj0 hj1 hx
  have c3 := fun w => rotl_any x k w hk0 hk1 hx
  generalize rotr x i = q1 at *
  generalize rotr x j = q2 at *
  generalize rotr x k = q3 at *
  have C1 := Lib.hid c1
  have C2 := Lib.hid c2
  have C3 := Lib.hid c3
  clear c1 c2 c3
  go_enter Tryd.func83, Tryd.ntmps83
  go_wp2_with fail
  refine (C1.out _).mono ?_
  rintro e w' ⟨rfl, rfl⟩
  go_wp2_with fail
  refine (C2.out _).mono ?_
  rintro e w' ⟨rfl, rfl⟩
  go_wp2_with fail
  refine (C3.out _).mono ?_
  rintro e w' ⟨rfl, rfl⟩
  go_wp2
  go_ret
  exact ⟨rfl, rfl⟩
end Go.Proofs.YtieamjjnofelcaaDoor
namespace Go.Proofs.YtieamjjnofelcaaDoor
set_option linter.unusedSimpArgs false
set_option linter.unusedVariables false
open Go.RowKit Sha

def wv (l : List Nat) : List Value := l.map fun n => .int .u32 (n : Nat)
@[simp] theorem length_wv (l : List Nat) : (wv l).length = l.length := by simp [wv]
theorem wv_at (l : List Nat) (k : Nat) (h : k < l.length) : (wv l).toArray[k]? = some (.int .u32 (l[k] : Nat)) := by simp [wv, h]
/-- A row of which the first t words are made. -/
def rowW (l : List Nat) : Array Value := (wv (l ++ List.replicate (64 - l.length) 0)).toArray
theorem rowW_at (l : List Nat) (k : Nat) (h : k < l.length) : (rowW l)[k]? = some (.int .u32 (l.getD k 0 : Nat)) := by
  unfold rowW
  rw [wv_at _ k (by simp; omega)]
  simp [h]
theorem rowW_next (l : List Nat) (h : l.length < 64) : (rowW l)[l.length]? = some (.int .u32 0) := by
  unfold rowW
  rw [wv_at _ _ (by simp; omega)]
  simp
theorem rowW_set (l : List Nat) (v : Nat) (h : l.length < 64) : (rowW l).setIfInBounds l.length (.int .u32 (v : Nat)) = rowW (l ++ [v]) := by
  unfold rowW
  have e : List.replicate (64 - l.length) 0 = 0 :: List.replicate (64 - (l.length + 1)) 0 := by
    rw [show 64 - l.length = (64 - (l.length + 1)) + 1 by omega, List.replicate_succ]
  simp only [wv, List.setIfInBounds_toArray, e, List.length_append, List.length_cons, List.length_nil, List.map_append, List.map_cons, Nat.zero_add]
  congr 1
  rw [List.set_append_right _ _ (by simp)]
  simp
theorem rowW_zero (l : List Nat) (h : l.length < 64) : rowW (l ++ [0]) = rowW l := by
  unfold rowW
  have e : List.replicate (64 - l.length) 0 = 0 :: List.replicate (64 - (l.length + 1)) 0 := by
    rw [show 64 - l.length = (64 - (l.length + 1)) + 1 by omega, List.replicate_succ]
  rw [e]; simp
theorem rowW_upd (l : List Nat) (x v : Nat) (h : l.length < 64) : (rowW (l ++ [x])).setIfInBounds l.length (.int .u32 (v : Nat)) = rowW (l ++ [v]) := by
  unfold rowW
  simp only [wv, List.setIfInBounds_toArray, List.length_append, List.length_cons, List.length_nil, List.map_append, List.map_cons, List.map_nil]
  congr 1
  rw [List.append_assoc, List.append_assoc, List.set_append_right _ _ (by simp)]
  simp
theorem rowW_full (l : List Nat) (h : l.length = 64) : rowW l = (wv l).toArray := by simp [rowW, h]
theorem size_rowW (l : List Nat) (h : l.length ≤ 64) : (rowW l).size = 64 := by simp [rowW]; omega

theorem rowW_last (S : List Nat) (x t : Nat) (h : S.length = t) (ht : t < 64) : (rowW (S ++ [x]))[t]? = some (.int .u32 (x : Nat)) := by
  subst h
  rw [rowW_at _ _ (by simp)]; simp
theorem wordN_lt (l : List UInt8) (t j : Nat) : wordN l t j < 4294967296 := by
  cases j with
  | zero => rw [wordN]; decide
  | succ j => exact or32_lt _ _
theorem word4_lt (l : List UInt8) (t : Nat) : word4 l t < 4294967296 := wordN_lt l t 4
theorem sched_lt (b : List UInt8) (t k : Nat) : (sched b t).getD k 0 < 4294967296 := by
  induction t with
  | zero => simp [sched]
  | succ t ih =>
    have hl := length_sched b t
    by_cases hk : k < t
    · have : (sched b (t + 1)).getD k 0 = (sched b t).getD k 0 := by
        simp only [sched, List.getD_eq_getElem?_getD]
        rw [List.getElem?_append_left (by omega)]
      rw [this]; exact ih
    · by_cases hk2 : k = t
      · have : (sched b (t + 1)).getD k 0 = if t < 16 then word4 b t else next (sched b t) t := by
          simp only [sched, List.getD_eq_getElem?_getD]
          rw [List.getElem?_append_right (by omega), hl, hk2]
          simp
        rw [this]
        split
        · exact word4_lt _ _
        · exact add32_lt _ _
      · have : (sched b (t + 1)).getD k 0 = 0 := by
          simp only [List.getD_eq_getElem?_getD]
          rw [List.getElem?_eq_none (by rw [length_sched]; omega)]
          rfl
        rw [this]; decide
theorem rotl_lit (x : Nat) (k : Int) (i : Nat) (w : World) (hk : k = -(i : Int)) (h0 : 1 ≤ i) (h1 : i ≤ 31) (hx : x < 4294967296) :
    Calls Tryd.prog 89 #[.int .u32 (x : Nat), .int .i64 k] w fun e w' => e = .returned (.int .u32 ((rotr x i : Nat) : Int)) ∧ w = w' := by
  subst hk; exact rotl_any x i w h0 h1 hx
theorem s0_int (p : Nat) : bits .xor .u32 (bits .xor .u32 ((rotr p 7 : Nat) : Int) ((rotr p 18 : Nat) : Int)) ((p : Int) / 8) = ((sig0 p : Nat) : Int) := by
  have h := w_shr p 3
  simp only [show (2 : Int) ^ 3 = 8 from rfl] at h
  rw [h, w_xor, w_xor]; rfl
theorem s1_int (q : Nat) : bits .xor .u32 (bits .xor .u32 ((rotr q 17 : Nat) : Int) ((rotr q 19 : Nat) : Int)) ((q : Int) / 1024) = ((sig1 q : Nat) : Int) := by
  have h := w_shr q 10
  simp only [show (2 : Int) ^ 10 = 1024 from rfl] at h
  rw [h, w_xor, w_xor]; rfl
theorem all_wv (l : List Nat) : (wv l).toArray.all (·.oneCell') = true := by simp [wv, Value.oneCell']

set_option maxHeartbeats 1000000 in
set_option maxRecDepth 100000 in
theorem schedule_any (A : Option Addr) (c : Nat) (l : List UInt8) (w : World) (hl : l.length = 64) (hc : 64 ≤ c) (hcm : c ≤ maxLen) (hr : Rd w A 64 (bv l)) :
    Calls Tryd.prog 82 #[.slice A 64 c] w fun e w' => e = .returned (.agg (wv (sched l 64)).toArray) ∧ Below w.heap.size w w' := by
  unfold maxLen at hcm
  obtain ⟨ad, rfl, _⟩ := hr.get (k := 0) (by omega)
  go_enter Tryd.func82, Tryd.ntmps82
  go_wp2_with fail
  go_loopw [4, 6, 7, 8, 9, 10, 11] (fun _ _ _ _ _ _ i wr => ∃ t : Nat, t ≤ 64 ∧ i = .int .i64 t ∧ Below w.heap.size w wr ∧ Blk wr w.heap.size 126 (rowW []) ∧ Blk wr (w.heap.size + 1) 126 (rowW (sched l t))) (fun _ _ _ _ _ _ i _ => 64 - (intOf i).toNat)
  case atStart => exact ⟨0, Nat.zero_le _, rfl, ((Below.refl _ _).alloc (by simp) _).alloc (by simp) _, (Blk.new _ _ _).alloc _, Blk.new2 _ _ _ _⟩
  case round =>
    obtain ⟨t, ht, rfl, hb, hB0, hB1⟩ := hrel
    by_cases hlt : t < 64
    · by_cases h16 : t < 16
      · have h16' : t < 64 := by omega
        have hst : sched l (t + 1) = sched l t ++ [word4 l t] := by rw [sched, if_pos h16]
        have HST := Lib.hid hst
        clear hst
        have hls := length_sched l t
        have HLS := Lib.hid hls
        clear hls
        generalize sched l t = S at *
        rw [← rowW_zero S (by rw [HLS.out]; omega)] at hB1
        go_wp2_with fail
        obtain ⟨wo, rfl⟩ : ∃ wo : World, wo = wr := ⟨_, rfl⟩
        go_loopw [6, 24] (fun _ i wr => ∃ j : Nat, j ≤ 4 ∧ i = .int .i64 j ∧ Below w.heap.size w wr ∧ Blk wr w.heap.size 126 (rowW []) ∧ Blk wr (w.heap.size + 1) 126 (rowW (S ++ [wordN l t j]))) (fun _ i _ => 4 - (intOf i).toNat)
        case atStart => exact ⟨0, Nat.zero_le _, rfl, hb, hB0, hB1⟩
        case round =>
          obtain ⟨j, hj, rfl, hb2, hC0, hC1⟩ := hrel
          by_cases hlj : j < 4
          · obtain ⟨ad', h0, hc1⟩ := hr.byte (k := 4 * t + j) (by omega) hl
            injection h0 with h0
            subst h0
            have hc2 : wr.cell? ((ad.add (4 * t)).add j) = some (.int .u8 ((l.getD (4 * t + j) 0).toNat : Nat)) := by
              rw [add_of_add]
              have hx : l.getD (4 * t + j) 0 = l[4 * t + j]'(by omega) := by simp [show 4 * t + j < l.length by omega]
              rw [hx]
              exact (hb2.cell (by have := World.block_lt_of_cell? w _ hc1; simpa [block_of_add] using this)).trans hc1
            have hbl := (l.getD (4 * t + j) 0).toNat_lt
            have hct := hC1.cell t
            rw [rowW_last S _ t HLS.out h16'] at hct
            have hft := hC1.free t
            have hwx := wordN_lt l t j
            have hfin : bits .or .u32 ((wordN l t j : Nat) * 256 % 4294967296 : Int) ((l.getD (4 * t + j) 0).toNat : Int) = ((wordN l t (j + 1) : Nat) : Int) := by
              have e1 : ((wordN l t j : Nat) : Int) * 256 % 4294967296 = ((shl32 (wordN l t j) 8 : Nat) : Int) := by rw [← w_shl, IntKind.wrap_u32]; rfl
              rw [e1, w_or]; rfl
            have hup := rowW_upd S (wordN l t j) (wordN l t (j + 1)) (by rw [HLS.out]; omega)
            have HUP := Lib.hid hup
            clear hup
            generalize hx1 : wordN l t (j + 1) = x1 at *
            have HX1 := Lib.hid hx1
            clear hx1
            generalize wordN l t j = x0 at *
            generalize (l.getD (4 * t + j) 0).toNat = bt at *
            clear hc1
            go_wp2_with fail
            refine ⟨⟨j + 1, by omega, by go_num, hb2.setCell (by simp) _, hC0.far (by simp) _, ?_⟩, by simp [intOf]; omega⟩
            rw [HX1.out, ← HUP.out, HLS.out]
            exact hC1.set t _
          · obtain rfl : j = 4 := by omega
            go_wp2_with fail
            refine ⟨⟨t + 1, by omega, by go_num, hb2, hC0, ?_⟩, by simp [intOf]; omega⟩
            rw [HST.out]; exact hC1
      · have hst : sched l (t + 1) = sched l t ++ [next (sched l t) t] := by rw [sched, if_neg h16]
        have HST := Lib.hid hst
        clear hst
        have hls := length_sched l t
        have c2 := hB1.cell (t - 2)
        have c7 := hB1.cell (t - 7)
        have c15 := hB1.cell (t - 15)
        have c16 := hB1.cell (t - 16)
        have ct := hB1.cell t
        have ft := hB1.free t
        rw [rowW_at _ _ (by omega)] at c2 c7 c15 c16
        rw [show (rowW (sched l t))[t]? = some (.int .u32 0) by have := rowW_next (sched l t) (by omega); rwa [hls] at this] at ct
        have hup := rowW_set (sched l t) (next (sched l t) t) (by omega)
        rw [hls] at hup
        have HUP := Lib.hid hup
        clear hup hls
        have hn : next (sched l t) t = add32 (add32 (add32 ((sched l t).getD (t - 16) 0) (sig0 ((sched l t).getD (t - 15) 0))) ((sched l t).getD (t - 7) 0)) (sig1 ((sched l t).getD (t - 2) 0)) := rfl
        have hp := sched_lt l t (t - 15)
        have hq := sched_lt l t (t - 2)
        generalize next (sched l t) t = nx at *
        have HN := Lib.hid hn
        clear hn
        generalize (sched l t).getD (t - 2) 0 = q at *
        generalize (sched l t).getD (t - 7) 0 = m7 at *
        generalize (sched l t).getD (t - 15) 0 = p at *
        generalize (sched l t).getD (t - 16) 0 = m16 at *
        have hs0 := s0_int p
        have hs1 := s1_int q
        go_wp2_with fail
        go_quiet (fail)
        go_wp2_with fail
        refine (rotl_lit _ _ 7 _ rfl (by omega) (by omega) hp).mono ?_
        rintro e w' ⟨rfl, rfl⟩
        go_wp2_with fail
        refine (rotl_lit _ _ 18 _ rfl (by omega) (by omega) hp).mono ?_
        rintro e w' ⟨rfl, rfl⟩
        go_wp2_with fail
        refine (rotl_lit _ _ 17 _ rfl (by omega) (by omega) hq).mono ?_
        rintro e w' ⟨rfl, rfl⟩
        go_wp2_with fail
        refine (rotl_lit _ _ 19 _ rfl (by omega) (by omega) hq).mono ?_
        rintro e w' ⟨rfl, rfl⟩
        go_wp2_with fail
        have hbq : Below w.heap.size w (wr.drewN nq) := ⟨hb.os, hb.tape, hb.output, hb.size, hb.block⟩
        have hBq0 : Blk (wr.drewN nq) w.heap.size 126 (rowW []) := hB0
        have hBq1 : Blk (wr.drewN nq) (w.heap.size + 1) 126 (rowW (sched l t)) := hB1
        change (wr.drewN nq).cell? _ = _ at c16 c7 ct
        change (wr.drewN nq).frozen? _ = _ at ft
        generalize wr.drewN nq = wq at *
        have b7 : (t : Int) - 7 < 64 := by omega
        have b16 : (t : Int) - 16 < 64 := by omega
        have d7 : (7 : Int) ≤ t := by omega
        have d16 : (16 : Int) ≤ t := by omega
        refine wp_region_T 15 (by kernel_rfl) ?_
        refine WpT.take (i := 0) rfl (by kernel_rfl) (fun _ _ _ h => h) (.inl ⟨by rfl, fun w hSw => by clear hSw; go_simp; (try go_bits); (try rw [if_pos (by omega)]); (try with_reducible rfl)⟩) ((Below.refl _ _).drew) ?_
        try simp only [nrm]
        refine WpT.take (i := 1) rfl (by kernel_rfl) (fun _ _ _ h => h) (.inl ⟨by rfl, fun w hSw => by clear hSw; go_simp; (try go_bits); (try rw [if_pos (by omega)]); (try with_reducible rfl)⟩) ((Below.refl _ _).drew) ?_
        try simp only [nrm]
        refine WpT.take (i := 2) rfl (by kernel_rfl) (fun _ _ _ h => h) (.inl ⟨by rfl, fun w hSw => by clear hSw; go_simp; (try go_bits); (try rw [if_pos (by omega)]); (try with_reducible rfl)⟩) ((Below.refl _ _).drew) ?_
        try simp only [nrm]
        refine WpT.take (i := 3) rfl (by kernel_rfl) (fun _ _ _ h => h) (.inl ⟨by rfl, fun w hSw => by clear hSw; go_simp; (try go_bits); (try rw [if_pos (by omega)]); (try with_reducible rfl)⟩) ((Below.refl _ _).drew) ?_
        try simp only [nrm]
        refine WpT.take (i := 4) rfl (by kernel_rfl) (fun _ _ _ h => h) (yields_load rfl rfl rfl (by kernel_rfl) (by assumption)) ((Below.refl _ _).drew) ?_
        try simp only [nrm]
        refine WpT.take (i := 5) rfl (by kernel_rfl) (fun _ _ _ h => h) (.inl ⟨by rfl, fun w hSw => by clear hSw; go_simp; (try go_bits); (try rw [if_pos (by omega)]); (try with_reducible rfl)⟩) ((Below.refl _ _).drew) ?_
        try simp only [nrm]
        refine WpT.take (i := 6) rfl (by kernel_rfl) (fun _ _ _ h => h) (.inl ⟨by rfl, fun w hSw => by clear hSw; go_simp; (try go_bits); (try rw [if_pos (by omega)]); (try with_reducible rfl)⟩) ((Below.refl _ _).drew) ?_
        try simp only [nrm]
        refine WpT.take (i := 7) rfl (by kernel_rfl) (fun _ _ _ h => h) (.inl ⟨by rfl, fun w hSw => by clear hSw; go_simp; (try go_bits); (try rw [if_pos (by omega)]); (try with_reducible rfl)⟩) ((Below.refl _ _).drew) ?_
        try simp only [nrm]
        refine WpT.take (i := 8) rfl (by kernel_rfl) (fun _ _ _ h => h) (.inl ⟨by rfl, fun w hSw => by clear hSw; go_simp; (try go_bits); (try rw [if_pos (by omega)]); (try with_reducible rfl)⟩) ((Below.refl _ _).drew) ?_
        try simp only [nrm]
        refine WpT.take (i := 9) rfl (by kernel_rfl) (fun _ _ _ h => h) (.inl ⟨by rfl, fun w hSw => by clear hSw; go_simp; (try go_bits); (try rw [if_pos (by omega)]); (try with_reducible rfl)⟩) ((Below.refl _ _).drew) ?_
        try simp only [nrm]
        refine WpT.take (i := 10) rfl (by kernel_rfl) (fun _ _ _ h => h) (yields_load rfl rfl rfl (by kernel_rfl) (by assumption)) ((Below.refl _ _).drew) ?_
        try simp only [nrm]
        refine WpT.take (i := 11) rfl (by kernel_rfl) (fun _ _ _ h => h) (.inl ⟨by rfl, fun w hSw => by clear hSw; go_simp; (try go_bits); (try rw [if_pos (by omega)]); (try with_reducible rfl)⟩) ((Below.refl _ _).drew) ?_
        try simp only [nrm]
        refine WpT.take (i := 12) rfl (by kernel_rfl) (fun _ _ _ h => h) (.inl ⟨by rfl, fun w hSw => by clear hSw; go_simp; (try go_bits); (try rw [if_pos (by omega)]); (try with_reducible rfl)⟩) ((Below.refl _ _).drew) ?_
        try simp only [nrm]
        refine WpT.take (i := 13) rfl (by kernel_rfl) (fun _ _ _ h => h) (.inl ⟨by rfl, fun w hSw => by clear hSw; go_simp; (try go_bits); (try rw [if_pos (by omega)]); (try with_reducible rfl)⟩) ((Below.refl _ _).drew) ?_
        try simp only [nrm]
        refine WpT.take (i := 14) rfl (by kernel_rfl) (fun _ _ _ h => h) (.inl ⟨by rfl, fun w hSw => by clear hSw; go_simp; (try go_bits); (try rw [if_pos (by omega)]); (try with_reducible rfl)⟩) ((Below.refl _ _).drew) ?_
        try simp only [nrm]
        refine WpT.tail (i := 15) rfl (by kernel_rfl) (by kernel_rfl) (fun K hK => ?_)
        go_simp; (try go_bits)
        refine hK _ _ ?_; clear hK K; try simp only [nrm]
        refine WpT.done (by kernel_rfl) ?_ _
        go_wp2_with fail
        have hfin : ((m16 : Int) + (sig0 p : Nat) + (m7 : Nat) + (sig1 q : Nat)) % 4294967296 = (nx : Int) := by
          rw [HN.out]; unfold add32; omega
        rw [hfin]
        refine ⟨⟨t + 1, by omega, by go_num, (hbq.setCell (by simp) _).drew, (hBq0.far (by simp) _).drew, ?_⟩, by simp [intOf]; omega⟩
        rw [HST.out, ← HUP.out]
        exact (hBq1.set t _).drew
    · obtain rfl : t = 64 := by omega
      rw [rowW_full _ (length_sched l 64)] at hB1
      have hz := size_rowW [] (by simp)
      have hl2 : (wv (sched l 64)).toArray.size = 64 := by simp [length_sched l 64]
      go_upto_region 16 with (fail)
      refine wp_region_lit ?_
      refine wpList_loadRow rfl rfl rfl hB1 (by kernel_rfl) (by rw [hl2]; kernel_rfl) ?_
      refine wpList_storeRow rfl rfl rfl rfl hB0 (by rw [hl2, hz]; omega) (by rw [hl2]; kernel_rfl) (all_wv _) ?_
      refine wpList_nil ?_
      have hB3 := hB0.all (wv (sched l 64)).toArray (by rw [hl2, hz])
      have hb3 := below_setCells hb (g := w.heap.size) (Nat.le_refl _) 0 (wv (sched l 64)).toArray.toList
      generalize wr.setCells w.heap.size 0 (wv (sched l 64)).toArray.toList = w5 at *
      clear hB0 hB1 hz
      have HL2 := Lib.hid hl2
      clear hl2
      go_wp2
      refine ret_blk rfl rfl rfl hB3 (by kernel_rfl) (by rw [HL2.out]; kernel_rfl) ⟨rfl, hb3⟩
end Go.Proofs.YtieamjjnofelcaaDoor
namespace Go.Proofs.YtieamjjnofelcaaDoor
set_option linter.unusedSimpArgs false
set_option linter.unusedVariables false
open Go.RowKit Sha

theorem or32_add (i x y : Nat) (hx : x % 2 ^ i = 0) (hy : y < 2 ^ i) (hxl : x < 4294967296) (hi : i ≤ 32) : or32 x y = x + y := by
  have h32 : (2 : Nat) ^ i ≤ 2 ^ 32 := Nat.pow_le_pow_right (by omega) hi
  unfold or32
  rw [Nat.mod_eq_of_lt hxl, Nat.mod_eq_of_lt (by omega)]
  exact nat_join i x y hx hy
theorem word4_eq (l : List UInt8) (t : Nat) : word4 l t = (l.getD (4 * t) 0).toNat * 16777216 + (l.getD (4 * t + 1) 0).toNat * 65536 + (l.getD (4 * t + 2) 0).toNat * 256 + (l.getD (4 * t + 3) 0).toNat := by
  have h0 := (l.getD (4 * t) 0).toNat_lt
  have h1 := (l.getD (4 * t + 1) 0).toNat_lt
  have h2 := (l.getD (4 * t + 2) 0).toNat_lt
  have h3 := (l.getD (4 * t + 3) 0).toNat_lt
  simp only [word4, wordN, Nat.add_zero]
  generalize (l.getD (4 * t) 0).toNat = a at *
  generalize (l.getD (4 * t + 1) 0).toNat = b at *
  generalize (l.getD (4 * t + 2) 0).toNat = c at *
  generalize (l.getD (4 * t + 3) 0).toNat = d at *
  have e0 : or32 (shl32 0 8) a = a := by
    rw [or32_add 8 _ _ (by simp [shl32]) h0 (shl32_lt _ _) (by omega)]; simp [shl32]
  have e1 : or32 (shl32 a 8) b = a * 256 + b := by
    rw [or32_add 8 _ _ (by simp [shl32]) h1 (shl32_lt _ _) (by omega)]; simp [shl32]; omega
  have e2 : or32 (shl32 (a * 256 + b) 8) c = a * 65536 + b * 256 + c := by
    rw [or32_add 8 _ _ (by simp [shl32]) h2 (shl32_lt _ _) (by omega)]; simp [shl32]; omega
  have e3 : or32 (shl32 (a * 65536 + b * 256 + c) 8) d = a * 16777216 + b * 65536 + c * 256 + d := by
    rw [or32_add 8 _ _ (by simp [shl32]) h3 (shl32_lt _ _) (by omega)]; simp [shl32]; omega
  rw [e0, e1, e2, e3]
theorem word4_int (l : List UInt8) (t : Nat) :
    bits .or .u32 (bits .or .u32 (bits .or .u32 (((l.getD (4 * t) 0).toNat : Int) * 16777216) (((l.getD (4 * t + 1) 0).toNat : Int) * 65536)) (((l.getD (4 * t + 2) 0).toNat : Int) * 256)) ((l.getD (4 * t + 3) 0).toNat : Int) = ((word4 l t : Nat) : Int) := by
  have h0 := (l.getD (4 * t) 0).toNat_lt
  have h1 := (l.getD (4 * t + 1) 0).toNat_lt
  have h2 := (l.getD (4 * t + 2) 0).toNat_lt
  have h3 := (l.getD (4 * t + 3) 0).toNat_lt
  rw [word4_eq]
  generalize (l.getD (4 * t) 0).toNat = a at *
  generalize (l.getD (4 * t + 1) 0).toNat = b at *
  generalize (l.getD (4 * t + 2) 0).toNat = c at *
  generalize (l.getD (4 * t + 3) 0).toNat = d at *
  have e : ∀ x k : Nat, (x : Int) * (k : Int) = ((x * k : Nat) : Int) := fun x k => by simp
  rw [show ((a : Int) * 16777216) = ((a * 16777216 : Nat) : Int) from e a 16777216, show ((b : Int) * 65536) = ((b * 65536 : Nat) : Int) from e b 65536, show ((c : Int) * 256) = ((c * 256 : Nat) : Int) from e c 256, w_or, w_or, w_or]
  congr 1
  rw [or32_add 24 (a * 16777216) _ (by omega) (by omega) (by omega) (by omega), or32_add 16 (a * 16777216 + b * 65536) _ (by omega) (by omega) (by omega) (by omega), or32_add 8 (a * 16777216 + b * 65536 + c * 256) _ (by omega) (by omega) (by omega) (by omega)]
theorem getD_lt {l : List UInt8} {k : Nat} (h : k < l.length) : l.getD k 0 = l[k] := by simp [h]
theorem Rd.byteD {w : World} {A : Option Addr} {n : Nat} {l : List UInt8} (h : Rd w A n (bv l)) {k : Nat} (hk : k < n) (hl : l.length = n) : ∃ ad, A = some ad ∧ w.cell? (ad.add k) = some (.int .u8 ((l.getD k 0).toNat : Nat)) := by
  rw [getD_lt (by omega)]; exact h.byte hk hl

set_option maxHeartbeats 1000000 in
set_option maxRecDepth 100000 in
theorem refWordsS_any (A : Option Addr) (c : Nat) (l : List UInt8) (w : World) (hl : l.length = 64) (hr : Rd w A 64 (bv l)) :
    Calls Tryd.prog 85 #[.slice A 64 c] w fun e w' => e = .returned (.agg (wv (sched l 64)).toArray) ∧ Below w.heap.size w w' := by
  obtain ⟨ad, rfl, _⟩ := hr.get (k := 0) (by omega)
  go_enter Tryd.func85, Tryd.ntmps85
  go_wp2_with fail
  go_loopw [4] (fun i wr => ∃ t : Nat, t ≤ 16 ∧ i = .int .i64 t ∧ Below w.heap.size w wr ∧ Blk wr w.heap.size 126 (rowW []) ∧ Blk wr (w.heap.size + 1) 126 (rowW (sched l t))) (fun i _ => 16 - (intOf i).toNat)
  case atStart => exact ⟨0, Nat.zero_le _, rfl, ((Below.refl _ _).alloc (by simp) _).alloc (by simp) _, (Blk.new _ _ _).alloc _, Blk.new2 _ _ _ _⟩
  case round =>
    obtain ⟨t, ht, rfl, hb, hB0, hB1⟩ := hrel
    by_cases hlt : t < 16
    · have hls := length_sched l t
      have hst : sched l (t + 1) = sched l t ++ [word4 l t] := by rw [sched, if_pos hlt]
      have hup := rowW_set (sched l t) (word4 l t) (by omega)
      rw [hls] at hup
      have ct := hB1.cell t
      have ft := hB1.free t
      rw [show (rowW (sched l t))[t]? = some (.int .u32 0) by have := rowW_next (sched l t) (by omega); rwa [hls] at this] at ct
      rw [← hst] at hup
      have HUP := Lib.hid hup
      clear hup hst hls
      obtain ⟨ad', h0, q0⟩ := (hr.below hb).byteD (k := 4 * t) (by omega) hl
      injection h0 with h0; subst h0
      obtain ⟨ad', h0, q1⟩ := (hr.below hb).byteD (k := 4 * t + 1) (by omega) hl
      injection h0 with h0; subst h0
      obtain ⟨ad', h0, q2⟩ := (hr.below hb).byteD (k := 4 * t + 2) (by omega) hl
      injection h0 with h0; subst h0
      obtain ⟨ad', h0, q3⟩ := (hr.below hb).byteD (k := 4 * t + 3) (by omega) hl
      injection h0 with h0; subst h0
      have hw := word4_int l t
      have z0 := (l.getD (4 * t) 0).toNat_lt
      have z1 := (l.getD (4 * t + 1) 0).toNat_lt
      have z2 := (l.getD (4 * t + 2) 0).toNat_lt
      have z3 := (l.getD (4 * t + 3) 0).toNat_lt
      generalize (l.getD (4 * t) 0).toNat = x0 at *
      generalize (l.getD (4 * t + 1) 0).toNat = x1 at *
      generalize (l.getD (4 * t + 2) 0).toNat = x2 at *
      generalize (l.getD (4 * t + 3) 0).toNat = x3 at *
      generalize word4 l t = wd at *
      go_wp2_with fail
      refine wp_region_T 35 (by kernel_rfl) ?_
      refine WpT.take (i := 0) rfl (by kernel_rfl) (fun _ _ _ h => h) (.inl ⟨by rfl, fun w hSw => by clear hSw; go_simp; (try go_bits); (try rw [if_pos (by omega)]); (try with_reducible rfl)⟩) ((Below.refl _ _).drew) ?_
      try simp only [nrm]
      refine WpT.take (i := 1) rfl (by kernel_rfl) (fun _ _ _ h => h) (.inl ⟨by rfl, fun w hSw => by clear hSw; go_simp; (try go_bits); (try rw [if_pos (by omega)]); (try with_reducible rfl)⟩) ((Below.refl _ _).drew) ?_
      try simp only [nrm]
      refine WpT.take (i := 2) rfl (by kernel_rfl) (fun _ _ _ h => h) (.inl ⟨by rfl, fun w hSw => by clear hSw; go_simp; (try go_bits); (try rw [if_pos (by omega)]); (try with_reducible rfl)⟩) ((Below.refl _ _).drew) ?_
      try simp only [nrm]
      refine WpT.take (i := 3) rfl (by kernel_rfl) (fun _ _ _ h => h) (.inl ⟨by rfl, fun w hSw => by clear hSw; go_simp; (try go_bits); (try rw [if_pos (by omega)]); (try with_reducible rfl)⟩) ((Below.refl _ _).drew) ?_
      try simp only [nrm]
      refine WpT.take (i := 4) rfl (by kernel_rfl) (fun _ _ _ h => h) (.inl ⟨by rfl, fun w hSw => by clear hSw; go_simp; (try go_bits); (try rw [if_pos (by omega)]); (try with_reducible rfl)⟩) ((Below.refl _ _).drew) ?_
      try simp only [nrm]
      refine WpT.take (i := 5) rfl (by kernel_rfl) (fun _ _ _ h => h) (yields_load rfl rfl rfl (by kernel_rfl) (by assumption)) ((Below.refl _ _).drew) ?_
      try simp only [nrm]
      refine WpT.take (i := 6) rfl (by kernel_rfl) (fun _ _ _ h => h) (.inl ⟨by rfl, fun w hSw => by clear hSw; go_simp; (try go_bits); (try rw [if_pos (by omega)]); (try with_reducible rfl)⟩) ((Below.refl _ _).drew) ?_
      try simp only [nrm]
      refine WpT.take (i := 7) rfl (by kernel_rfl) (fun _ _ _ h => h) (.inl ⟨by rfl, fun w hSw => by clear hSw; go_simp; (try go_bits); (try rw [if_pos (by omega)]); (try with_reducible rfl)⟩) ((Below.refl _ _).drew) ?_
      try simp only [nrm]
      refine WpT.take (i := 8) rfl (by kernel_rfl) (fun _ _ _ h => h) (.inl ⟨by rfl, fun w hSw => by clear hSw; go_simp; (try go_bits); (try rw [if_pos (by omega)]); (try with_reducible rfl)⟩) ((Below.refl _ _).drew) ?_
      try simp only [nrm]
      refine WpT.take (i := 9) rfl (by kernel_rfl) (fun _ _ _ h => h) (.inl ⟨by rfl, fun w hSw => by clear hSw; go_simp; (try go_bits); (try rw [if_pos (by omega)]); (try with_reducible rfl)⟩) ((Below.refl _ _).drew) ?_
      try simp only [nrm]
      refine WpT.take (i := 10) rfl (by kernel_rfl) (fun _ _ _ h => h) (.inl ⟨by rfl, fun w hSw => by clear hSw; go_simp; (try go_bits); (try rw [if_pos (by omega)]); (try with_reducible rfl)⟩) ((Below.refl _ _).drew) ?_
      try simp only [nrm]
      refine WpT.take (i := 11) rfl (by kernel_rfl) (fun _ _ _ h => h) (.inl ⟨by rfl, fun w hSw => by clear hSw; go_simp; (try go_bits); (try rw [if_pos (by omega)]); (try with_reducible rfl)⟩) ((Below.refl _ _).drew) ?_
      try simp only [nrm]
      refine WpT.take (i := 12) rfl (by kernel_rfl) (fun _ _ _ h => h) (.inl ⟨by rfl, fun w hSw => by clear hSw; go_simp; (try go_bits); (try rw [if_pos (by omega)]); (try with_reducible rfl)⟩) ((Below.refl _ _).drew) ?_
      try simp only [nrm]
      refine WpT.take (i := 13) rfl (by kernel_rfl) (fun _ _ _ h => h) (yields_load rfl rfl rfl (by kernel_rfl) (by assumption)) ((Below.refl _ _).drew) ?_
      try simp only [nrm]
      refine WpT.take (i := 14) rfl (by kernel_rfl) (fun _ _ _ h => h) (.inl ⟨by rfl, fun w hSw => by clear hSw; go_simp; (try go_bits); (try rw [if_pos (by omega)]); (try with_reducible rfl)⟩) ((Below.refl _ _).drew) ?_
      try simp only [nrm]
      refine WpT.take (i := 15) rfl (by kernel_rfl) (fun _ _ _ h => h) (.inl ⟨by rfl, fun w hSw => by clear hSw; go_simp; (try go_bits); (try rw [if_pos (by omega)]); (try with_reducible rfl)⟩) ((Below.refl _ _).drew) ?_
      try simp only [nrm]
      refine WpT.take (i := 16) rfl (by kernel_rfl) (fun _ _ _ h => h) (.inl ⟨by rfl, fun w hSw => by clear hSw; go_simp; (try go_bits); (try rw [if_pos (by omega)]); (try with_reducible rfl)⟩) ((Below.refl _ _).drew) ?_
      try simp only [nrm]
      refine WpT.take (i := 17) rfl (by kernel_rfl) (fun _ _ _ h => h) (.inl ⟨by rfl, fun w hSw => by clear hSw; go_simp; (try go_bits); (try rw [if_pos (by omega)]); (try with_reducible rfl)⟩) ((Below.refl _ _).drew) ?_
      try simp only [nrm]
      refine WpT.take (i := 18) rfl (by kernel_rfl) (fun _ _ _ h => h) (.inl ⟨by rfl, fun w hSw => by clear hSw; go_simp; (try go_bits); (try rw [if_pos (by omega)]); (try with_reducible rfl)⟩) ((Below.refl _ _).drew) ?_
      try simp only [nrm]
      refine WpT.take (i := 19) rfl (by kernel_rfl) (fun _ _ _ h => h) (.inl ⟨by rfl, fun w hSw => by clear hSw; go_simp; (try go_bits); (try rw [if_pos (by omega)]); (try with_reducible rfl)⟩) ((Below.refl _ _).drew) ?_
      try simp only [nrm]
      refine WpT.take (i := 20) rfl (by kernel_rfl) (fun _ _ _ h => h) (.inl ⟨by rfl, fun w hSw => by clear hSw; go_simp; (try go_bits); (try rw [if_pos (by omega)]); (try with_reducible rfl)⟩) ((Below.refl _ _).drew) ?_
      try simp only [nrm]
      refine WpT.take (i := 21) rfl (by kernel_rfl) (fun _ _ _ h => h) (.inl ⟨by rfl, fun w hSw => by clear hSw; go_simp; (try go_bits); (try rw [if_pos (by omega)]); (try with_reducible rfl)⟩) ((Below.refl _ _).drew) ?_
      try simp only [nrm]
      refine WpT.take (i := 22) rfl (by kernel_rfl) (fun _ _ _ h => h) (yields_load rfl rfl rfl (by kernel_rfl) (by assumption)) ((Below.refl _ _).drew) ?_
      try simp only [nrm]
      refine WpT.take (i := 23) rfl (by kernel_rfl) (fun _ _ _ h => h) (.inl ⟨by rfl, fun w hSw => by clear hSw; go_simp; (try go_bits); (try rw [if_pos (by omega)]); (try with_reducible rfl)⟩) ((Below.refl _ _).drew) ?_
      try simp only [nrm]
      refine WpT.take (i := 24) rfl (by kernel_rfl) (fun _ _ _ h => h) (.inl ⟨by rfl, fun w hSw => by clear hSw; go_simp; (try go_bits); (try rw [if_pos (by omega)]); (try with_reducible rfl)⟩) ((Below.refl _ _).drew) ?_
      try simp only [nrm]
      refine WpT.take (i := 25) rfl (by kernel_rfl) (fun _ _ _ h => h) (.inl ⟨by rfl, fun w hSw => by clear hSw; go_simp; (try go_bits); (try rw [if_pos (by omega)]); (try with_reducible rfl)⟩) ((Below.refl _ _).drew) ?_
      try simp only [nrm]
      refine WpT.take (i := 26) rfl (by kernel_rfl) (fun _ _ _ h => h) (.inl ⟨by rfl, fun w hSw => by clear hSw; go_simp; (try go_bits); (try rw [if_pos (by omega)]); (try with_reducible rfl)⟩) ((Below.refl _ _).drew) ?_
      try simp only [nrm]
      refine WpT.take (i := 27) rfl (by kernel_rfl) (fun _ _ _ h => h) (.inl ⟨by rfl, fun w hSw => by clear hSw; go_simp; (try go_bits); (try rw [if_pos (by omega)]); (try with_reducible rfl)⟩) ((Below.refl _ _).drew) ?_
      try simp only [nrm]
      refine WpT.take (i := 28) rfl (by kernel_rfl) (fun _ _ _ h => h) (.inl ⟨by rfl, fun w hSw => by clear hSw; go_simp; (try go_bits); (try rw [if_pos (by omega)]); (try with_reducible rfl)⟩) ((Below.refl _ _).drew) ?_
      try simp only [nrm]
      refine WpT.take (i := 29) rfl (by kernel_rfl) (fun _ _ _ h => h) (.inl ⟨by rfl, fun w hSw => by clear hSw; go_simp; (try go_bits); (try rw [if_pos (by omega)]); (try with_reducible rfl)⟩) ((Below.refl _ _).drew) ?_
      try simp only [nrm]
      refine WpT.take (i := 30) rfl (by kernel_rfl) (fun _ _ _ h => h) (.inl ⟨by rfl, fun w hSw => by clear hSw; go_simp; (try go_bits); (try rw [if_pos (by omega)]); (try with_reducible rfl)⟩) ((Below.refl _ _).drew) ?_
      try simp only [nrm]
      refine WpT.take (i := 31) rfl (by kernel_rfl) (fun _ _ _ h => h) (yields_load rfl rfl rfl (by kernel_rfl) (by assumption)) ((Below.refl _ _).drew) ?_
      try simp only [nrm]
      refine WpT.take (i := 32) rfl (by kernel_rfl) (fun _ _ _ h => h) (.inl ⟨by rfl, fun w hSw => by clear hSw; go_simp; (try go_bits); (try rw [if_pos (by omega)]); (try with_reducible rfl)⟩) ((Below.refl _ _).drew) ?_
      try simp only [nrm]
      refine WpT.take (i := 33) rfl (by kernel_rfl) (fun _ _ _ h => h) (.inl ⟨by rfl, fun w hSw => by clear hSw; go_simp; (try go_bits); (try rw [if_pos (by omega)]); (try with_reducible rfl)⟩) ((Below.refl _ _).drew) ?_
      try simp only [nrm]
      refine WpT.take (i := 34) rfl (by kernel_rfl) (fun _ _ _ h => h) (.inl ⟨by rfl, fun w hSw => by clear hSw; go_simp; (try go_bits); (try rw [if_pos (by omega)]); (try with_reducible rfl)⟩) ((Below.refl _ _).drew) ?_
      try simp only [nrm]
      refine WpT.tail (i := 35) rfl (by kernel_rfl) (by kernel_rfl) (fun K hK => ?_)
      go_simp; (try go_bits)
      refine hK _ _ ?_; clear hK K; try simp only [nrm]
      refine WpT.done (by kernel_rfl) ?_ _
      go_wp2_with fail
      refine ⟨⟨t + 1, by omega, by go_num, (hb.setCell (by simp) _).drew, (hB0.far (by simp) _).drew, ?_⟩, by simp [intOf]; omega⟩
      rw [← HUP.out]
      exact (hB1.set t _).drew
    · obtain rfl : t = 16 := by omega
      go_wp2_with fail
      clear hlt ht
      simp only [Int.cast_ofNat_Int]
      obtain ⟨wo, rfl⟩ : ∃ wo : World, wo = wr := ⟨_, rfl⟩
      go_loopw [5, 6, 7] (fun i _ _ wr => ∃ t : Nat, 16 ≤ t ∧ t ≤ 64 ∧ i = .int .i64 t ∧ Below w.heap.size w wr ∧ Blk wr w.heap.size 126 (rowW []) ∧ Blk wr (w.heap.size + 1) 126 (rowW (sched l t))) (fun i _ _ _ => 64 - (intOf i).toNat)
      case atStart => exact ⟨16, by omega, by omega, rfl, hb, hB0, hB1⟩
      case round =>
        clear hb hB0 hB1
        obtain ⟨t, h16, ht, rfl, hb, hB0, hB1⟩ := hrel
        by_cases hlt : t < 64
        · have hst : sched l (t + 1) = sched l t ++ [next (sched l t) t] := by rw [sched, if_neg (by omega)]
          have HST := Lib.hid hst
          clear hst
          have hls := length_sched l t
          have c2 := hB1.cell (t - 2)
          have c7 := hB1.cell (t - 7)
          have c15 := hB1.cell (t - 15)
          have c16 := hB1.cell (t - 16)
          have ct := hB1.cell t
          have ft := hB1.free t
          rw [rowW_at _ _ (by omega)] at c2 c7 c15 c16
          rw [show (rowW (sched l t))[t]? = some (.int .u32 0) by have := rowW_next (sched l t) (by omega); rwa [hls] at this] at ct
          have hup := rowW_set (sched l t) (next (sched l t) t) (by omega)
          rw [hls] at hup
          have HUP := Lib.hid hup
          clear hup hls
          have hn : next (sched l t) t = add32 (add32 (add32 ((sched l t).getD (t - 16) 0) (sig0 ((sched l t).getD (t - 15) 0))) ((sched l t).getD (t - 7) 0)) (sig1 ((sched l t).getD (t - 2) 0)) := rfl
          have hp := sched_lt l t (t - 15)
          have hq := sched_lt l t (t - 2)
          generalize next (sched l t) t = nx at *
          have HN := Lib.hid hn
          clear hn
          generalize (sched l t).getD (t - 2) 0 = q at *
          generalize (sched l t).getD (t - 7) 0 = m7 at *
          generalize (sched l t).getD (t - 15) 0 = p at *
          generalize (sched l t).getD (t - 16) 0 = m16 at *
          have hs0 := s0_int p
          have hs1 := s1_int q
          go_wp2_with fail
          refine wp_region_T 17 (by kernel_rfl) ?_
          refine WpT.take (i := 0) rfl (by kernel_rfl) (fun _ _ _ h => h) (.inl ⟨by rfl, fun w hSw => by clear hSw; go_simp; (try go_bits); (try rw [if_pos (by omega)]); (try with_reducible rfl)⟩) ((Below.refl _ _).drew) ?_
          try simp only [nrm]
          refine WpT.take (i := 1) rfl (by kernel_rfl) (fun _ _ _ h => h) (.inl ⟨by rfl, fun w hSw => by clear hSw; go_simp; (try go_bits); (try rw [if_pos (by omega)]); (try with_reducible rfl)⟩) ((Below.refl _ _).drew) ?_
          try simp only [nrm]
          refine WpT.take (i := 2) rfl (by kernel_rfl) (fun _ _ _ h => h) (.inl ⟨by rfl, fun w hSw => by clear hSw; go_simp; (try go_bits); (try rw [if_pos (by omega)]); (try with_reducible rfl)⟩) ((Below.refl _ _).drew) ?_
          try simp only [nrm]
          refine WpT.take (i := 3) rfl (by kernel_rfl) (fun _ _ _ h => h) (yields_load rfl rfl rfl (by kernel_rfl) (by assumption)) ((Below.refl _ _).drew) ?_
          try simp only [nrm]
          refine WpT.take (i := 5) rfl (by kernel_rfl) (fun _ _ _ h => h) (.inl ⟨by rfl, fun w hSw => by clear hSw; go_simp; (try go_bits); (try rw [if_pos (by omega)]); (try with_reducible rfl)⟩) ((Below.refl _ _).drew) ?_
          try simp only [nrm]
          refine WpT.take (i := 6) rfl (by kernel_rfl) (fun _ _ _ h => h) (.inl ⟨by rfl, fun w hSw => by clear hSw; go_simp; (try go_bits); (try rw [if_pos (by omega)]); (try with_reducible rfl)⟩) ((Below.refl _ _).drew) ?_
          try simp only [nrm]
          refine WpT.take (i := 7) rfl (by kernel_rfl) (fun _ _ _ h => h) (.inl ⟨by rfl, fun w hSw => by clear hSw; go_simp; (try go_bits); (try rw [if_pos (by omega)]); (try with_reducible rfl)⟩) ((Below.refl _ _).drew) ?_
          try simp only [nrm]
          refine WpT.take (i := 8) rfl (by kernel_rfl) (fun _ _ _ h => h) (yields_load rfl rfl rfl (by kernel_rfl) (by assumption)) ((Below.refl _ _).drew) ?_
          try simp only [nrm]
          refine WpT.take (i := 11) rfl (by kernel_rfl) (fun _ _ _ h => h) (.inl ⟨by rfl, fun w hSw => by clear hSw; go_simp; (try go_bits); (try rw [if_pos (by omega)]); (try with_reducible rfl)⟩) ((Below.refl _ _).drew) ?_
          try simp only [nrm]
          refine WpT.take (i := 12) rfl (by kernel_rfl) (fun _ _ _ h => h) (.inl ⟨by rfl, fun w hSw => by clear hSw; go_simp; (try go_bits); (try rw [if_pos (by omega)]); (try with_reducible rfl)⟩) ((Below.refl _ _).drew) ?_
          try simp only [nrm]
          refine WpT.take (i := 13) rfl (by kernel_rfl) (fun _ _ _ h => h) (.inl ⟨by rfl, fun w hSw => by clear hSw; go_simp; (try go_bits); (try rw [if_pos (by omega)]); (try with_reducible rfl)⟩) ((Below.refl _ _).drew) ?_
          try simp only [nrm]
          refine WpT.take (i := 14) rfl (by kernel_rfl) (fun _ _ _ h => h) (yields_load rfl rfl rfl (by kernel_rfl) (by assumption)) ((Below.refl _ _).drew) ?_
          try simp only [nrm]
          refine WpT.take (i := 15) rfl (by kernel_rfl) (fun _ _ _ h => h) (.inl ⟨by rfl, fun w hSw => by clear hSw; go_simp; (try go_bits); (try rw [if_pos (by omega)]); (try with_reducible rfl)⟩) ((Below.refl _ _).drew) ?_
          try simp only [nrm]
          refine WpT.one (i := 4) rfl (by kernel_rfl) (fun K hK => ?_)
          go_simp; refine (refRotr_any _ 7 _ (by omega) (by omega) hp).mono ?_; rintro e w1 ⟨rfl, hb1⟩; have hS1 : Below wr.heap.size wr w1 := bstep (Below.refl _ wr).drew hb1
          refine hK _ _ (hS1) ?_; clear hK K; try simp only [nrm]
          refine WpT.one (i := 9) rfl (by kernel_rfl) (fun K hK => ?_)
          go_simp; refine (refRotr_any _ 18 _ (by omega) (by omega) hp).mono ?_; rintro e w2 ⟨rfl, hb2⟩; have hS2 : Below wr.heap.size wr w2 := bstep hS1 hb2
          refine hK _ _ (hS2) ?_; clear hK K; try simp only [nrm]
          refine WpT.take (i := 10) rfl (by kernel_rfl) (fun _ _ _ h => h) (.inl ⟨by rfl, fun w hSw => by clear hSw; go_simp; (try go_bits); (try rw [if_pos (by omega)]); (try with_reducible rfl)⟩) (hS2) ?_
          try simp only [nrm]
          refine WpT.take (i := 16) rfl (by kernel_rfl) (fun _ _ _ h => h) (.inl ⟨by rfl, fun w hSw => by clear hSw; go_simp; (try go_bits); (try rw [if_pos (by omega)]); (try with_reducible rfl)⟩) (hS2) ?_
          try simp only [nrm]
          refine WpT.tail (i := 17) rfl (by kernel_rfl) (by kernel_rfl) (fun K hK => ?_)
          go_simp; (try go_bits)
          refine hK _ _ ?_; clear hK K; try simp only [nrm]
          refine WpT.done (by kernel_rfl) ?_ _
          go_wp2_with fail
          replace hb := hb.trans (hS2.mono hb.size)
          replace hB0 := hB0.below hS2
          replace hB1 := hB1.below hS2
          replace c2 := cell_later hS2 c2
          replace c7 := cell_later hS2 c7
          replace c16 := cell_later hS2 c16
          replace ct := cell_later hS2 ct
          clear c15 ft hb1 hb2 hS1 hS2
          generalize w2 = wr at *
          refine wp_region_T 17 (by kernel_rfl) ?_
          refine WpT.take (i := 0) rfl (by kernel_rfl) (fun _ _ _ h => h) (.inl ⟨by rfl, fun w hSw => by clear hSw; go_simp; (try go_bits); (try rw [if_pos (by omega)]); (try with_reducible rfl)⟩) ((Below.refl _ _).drew) ?_
          try simp only [nrm]
          refine WpT.take (i := 1) rfl (by kernel_rfl) (fun _ _ _ h => h) (.inl ⟨by rfl, fun w hSw => by clear hSw; go_simp; (try go_bits); (try rw [if_pos (by omega)]); (try with_reducible rfl)⟩) ((Below.refl _ _).drew) ?_
          try simp only [nrm]
          refine WpT.take (i := 2) rfl (by kernel_rfl) (fun _ _ _ h => h) (.inl ⟨by rfl, fun w hSw => by clear hSw; go_simp; (try go_bits); (try rw [if_pos (by omega)]); (try with_reducible rfl)⟩) ((Below.refl _ _).drew) ?_
          try simp only [nrm]
          refine WpT.take (i := 3) rfl (by kernel_rfl) (fun _ _ _ h => h) (yields_load rfl rfl rfl (by kernel_rfl) (by assumption)) ((Below.refl _ _).drew) ?_
          try simp only [nrm]
          refine WpT.take (i := 5) rfl (by kernel_rfl) (fun _ _ _ h => h) (.inl ⟨by rfl, fun w hSw => by clear hSw; go_simp; (try go_bits); (try rw [if_pos (by omega)]); (try with_reducible rfl)⟩) ((Below.refl _ _).drew) ?_
          try simp only [nrm]
          refine WpT.take (i := 6) rfl (by kernel_rfl) (fun _ _ _ h => h) (.inl ⟨by rfl, fun w hSw => by clear hSw; go_simp; (try go_bits); (try rw [if_pos (by omega)]); (try with_reducible rfl)⟩) ((Below.refl _ _).drew) ?_
          try simp only [nrm]
          refine WpT.take (i := 7) rfl (by kernel_rfl) (fun _ _ _ h => h) (.inl ⟨by rfl, fun w hSw => by clear hSw; go_simp; (try go_bits); (try rw [if_pos (by omega)]); (try with_reducible rfl)⟩) ((Below.refl _ _).drew) ?_
          try simp only [nrm]
          refine WpT.take (i := 8) rfl (by kernel_rfl) (fun _ _ _ h => h) (yields_load rfl rfl rfl (by kernel_rfl) (by assumption)) ((Below.refl _ _).drew) ?_
          try simp only [nrm]
          refine WpT.take (i := 11) rfl (by kernel_rfl) (fun _ _ _ h => h) (.inl ⟨by rfl, fun w hSw => by clear hSw; go_simp; (try go_bits); (try rw [if_pos (by omega)]); (try with_reducible rfl)⟩) ((Below.refl _ _).drew) ?_
          try simp only [nrm]
          refine WpT.take (i := 12) rfl (by kernel_rfl) (fun _ _ _ h => h) (.inl ⟨by rfl, fun w hSw => by clear hSw; go_simp; (try go_bits); (try rw [if_pos (by omega)]); (try with_reducible rfl)⟩) ((Below.refl _ _).drew) ?_
          try simp only [nrm]
          refine WpT.take (i := 13) rfl (by kernel_rfl) (fun _ _ _ h => h) (.inl ⟨by rfl, fun w hSw => by clear hSw; go_simp; (try go_bits); (try rw [if_pos (by omega)]); (try with_reducible rfl)⟩) ((Below.refl _ _).drew) ?_
          try simp only [nrm]
          refine WpT.take (i := 14) rfl (by kernel_rfl) (fun _ _ _ h => h) (yields_load rfl rfl rfl (by kernel_rfl) (by assumption)) ((Below.refl _ _).drew) ?_
          try simp only [nrm]
          refine WpT.take (i := 15) rfl (by kernel_rfl) (fun _ _ _ h => h) (.inl ⟨by rfl, fun w hSw => by clear hSw; go_simp; (try go_bits); (try rw [if_pos (by omega)]); (try with_reducible rfl)⟩) ((Below.refl _ _).drew) ?_
          try simp only [nrm]
          refine WpT.one (i := 4) rfl (by kernel_rfl) (fun K hK => ?_)
          go_simp; refine (refRotr_any _ 17 _ (by omega) (by omega) hq).mono ?_; rintro e w1 ⟨rfl, hb1⟩; have hS1 : Below wr.heap.size wr w1 := bstep (Below.refl _ wr).drew hb1
          refine hK _ _ (hS1) ?_; clear hK K; try simp only [nrm]
          refine WpT.one (i := 9) rfl (by kernel_rfl) (fun K hK => ?_)
          go_simp; refine (refRotr_any _ 19 _ (by omega) (by omega) hq).mono ?_; rintro e w2 ⟨rfl, hb2⟩; have hS2 : Below wr.heap.size wr w2 := bstep hS1 hb2
          refine hK _ _ (hS2) ?_; clear hK K; try simp only [nrm]
          refine WpT.take (i := 10) rfl (by kernel_rfl) (fun _ _ _ h => h) (.inl ⟨by rfl, fun w hSw => by clear hSw; go_simp; (try go_bits); (try rw [if_pos (by omega)]); (try with_reducible rfl)⟩) (hS2) ?_
          try simp only [nrm]
          refine WpT.take (i := 16) rfl (by kernel_rfl) (fun _ _ _ h => h) (.inl ⟨by rfl, fun w hSw => by clear hSw; go_simp; (try go_bits); (try rw [if_pos (by omega)]); (try with_reducible rfl)⟩) (hS2) ?_
          try simp only [nrm]
          refine WpT.tail (i := 17) rfl (by kernel_rfl) (by kernel_rfl) (fun K hK => ?_)
          go_simp; (try go_bits)
          refine hK _ _ ?_; clear hK K; try simp only [nrm]
          refine WpT.done (by kernel_rfl) ?_ _
          go_wp2_with fail
          replace hb := hb.trans (hS2.mono hb.size)
          replace hB0 := hB0.below hS2
          replace hB1 := hB1.below hS2
          replace c7 := cell_later hS2 c7
          replace c16 := cell_later hS2 c16
          replace ct := cell_later hS2 ct
          have ft := hB1.free t
          clear c2 hb1 hb2 hS1 hS2
          generalize w2 = wr at *
          refine wp_region_T 15 (by kernel_rfl) ?_
          refine WpT.take (i := 0) rfl (by kernel_rfl) (fun _ _ _ h => h) (.inl ⟨by rfl, fun w hSw => by clear hSw; go_simp; (try go_bits); (try rw [if_pos (by omega)]); (try with_reducible rfl)⟩) ((Below.refl _ _).drew) ?_
          try simp only [nrm]
          refine WpT.take (i := 1) rfl (by kernel_rfl) (fun _ _ _ h => h) (.inl ⟨by rfl, fun w hSw => by clear hSw; go_simp; (try go_bits); (try rw [if_pos (by omega)]); (try with_reducible rfl)⟩) ((Below.refl _ _).drew) ?_
          try simp only [nrm]
          refine WpT.take (i := 2) rfl (by kernel_rfl) (fun _ _ _ h => h) (.inl ⟨by rfl, fun w hSw => by clear hSw; go_simp; (try go_bits); (try rw [if_pos (by omega)]); (try with_reducible rfl)⟩) ((Below.refl _ _).drew) ?_
          try simp only [nrm]
          refine WpT.take (i := 3) rfl (by kernel_rfl) (fun _ _ _ h => h) (.inl ⟨by rfl, fun w hSw => by clear hSw; go_simp; (try go_bits); (try rw [if_pos (by omega)]); (try with_reducible rfl)⟩) ((Below.refl _ _).drew) ?_
          try simp only [nrm]
          refine WpT.take (i := 4) rfl (by kernel_rfl) (fun _ _ _ h => h) (yields_load rfl rfl rfl (by kernel_rfl) (by assumption)) ((Below.refl _ _).drew) ?_
          try simp only [nrm]
          refine WpT.take (i := 5) rfl (by kernel_rfl) (fun _ _ _ h => h) (.inl ⟨by rfl, fun w hSw => by clear hSw; go_simp; (try go_bits); (try rw [if_pos (by omega)]); (try with_reducible rfl)⟩) ((Below.refl _ _).drew) ?_
          try simp only [nrm]
          refine WpT.take (i := 6) rfl (by kernel_rfl) (fun _ _ _ h => h) (.inl ⟨by rfl, fun w hSw => by clear hSw; go_simp; (try go_bits); (try rw [if_pos (by omega)]); (try with_reducible rfl)⟩) ((Below.refl _ _).drew) ?_
          try simp only [nrm]
          refine WpT.take (i := 7) rfl (by kernel_rfl) (fun _ _ _ h => h) (.inl ⟨by rfl, fun w hSw => by clear hSw; go_simp; (try go_bits); (try rw [if_pos (by omega)]); (try with_reducible rfl)⟩) ((Below.refl _ _).drew) ?_
          try simp only [nrm]
          refine WpT.take (i := 8) rfl (by kernel_rfl) (fun _ _ _ h => h) (.inl ⟨by rfl, fun w hSw => by clear hSw; go_simp; (try go_bits); (try rw [if_pos (by omega)]); (try with_reducible rfl)⟩) ((Below.refl _ _).drew) ?_
          try simp only [nrm]
          refine WpT.take (i := 9) rfl (by kernel_rfl) (fun _ _ _ h => h) (.inl ⟨by rfl, fun w hSw => by clear hSw; go_simp; (try go_bits); (try rw [if_pos (by omega)]); (try with_reducible rfl)⟩) ((Below.refl _ _).drew) ?_
          try simp only [nrm]
          refine WpT.take (i := 10) rfl (by kernel_rfl) (fun _ _ _ h => h) (yields_load rfl rfl rfl (by kernel_rfl) (by assumption)) ((Below.refl _ _).drew) ?_
          try simp only [nrm]
          refine WpT.take (i := 11) rfl (by kernel_rfl) (fun _ _ _ h => h) (.inl ⟨by rfl, fun w hSw => by clear hSw; go_simp; (try go_bits); (try rw [if_pos (by omega)]); (try with_reducible rfl)⟩) ((Below.refl _ _).drew) ?_
          try simp only [nrm]
          refine WpT.take (i := 12) rfl (by kernel_rfl) (fun _ _ _ h => h) (.inl ⟨by rfl, fun w hSw => by clear hSw; go_simp; (try go_bits); (try rw [if_pos (by omega)]); (try with_reducible rfl)⟩) ((Below.refl _ _).drew) ?_
          try simp only [nrm]
          refine WpT.take (i := 13) rfl (by kernel_rfl) (fun _ _ _ h => h) (.inl ⟨by rfl, fun w hSw => by clear hSw; go_simp; (try go_bits); (try rw [if_pos (by omega)]); (try with_reducible rfl)⟩) ((Below.refl _ _).drew) ?_
          try simp only [nrm]
          refine WpT.take (i := 14) rfl (by kernel_rfl) (fun _ _ _ h => h) (.inl ⟨by rfl, fun w hSw => by clear hSw; go_simp; (try go_bits); (try rw [if_pos (by omega)]); (try with_reducible rfl)⟩) ((Below.refl _ _).drew) ?_
          try simp only [nrm]
          refine WpT.tail (i := 15) rfl (by kernel_rfl) (by kernel_rfl) (fun K hK => ?_)
          go_simp; (try go_bits)
          refine hK _ _ ?_; clear hK K; try simp only [nrm]
          refine WpT.done (by kernel_rfl) ?_ _
          go_wp2_with fail
          have hfin : ((m16 : Int) + (sig0 p : Nat) + (m7 : Nat) + (sig1 q : Nat)) % 4294967296 = (nx : Int) := by
            rw [HN.out]; unfold add32; omega
          rw [hfin]
          refine ⟨⟨t + 1, by omega, by omega, by go_num, (hb.setCell (by simp) _).drew, (hB0.far (by simp) _).drew, ?_⟩, by simp [intOf]; omega⟩
          rw [HST.out, ← HUP.out]
          exact (hB1.set t _).drew
        · obtain rfl : t = 64 := by omega
          rw [rowW_full _ (length_sched l 64)] at hB1
          have hz := size_rowW [] (by simp)
          have hl2 : (wv (sched l 64)).toArray.size = 64 := by simp [length_sched l 64]
          go_upto_region 12 with (fail)
          refine wp_region_lit ?_
          refine wpList_loadRow rfl rfl rfl hB1 (by kernel_rfl) (by rw [hl2]; kernel_rfl) ?_
          refine wpList_storeRow rfl rfl rfl rfl hB0 (by rw [hl2, hz]; omega) (by rw [hl2]; kernel_rfl) (all_wv _) ?_
          refine wpList_nil ?_
          have hB3 := hB0.all (wv (sched l 64)).toArray (by rw [hl2, hz])
          have hb3 := below_setCells hb (g := w.heap.size) (Nat.le_refl _) 0 (wv (sched l 64)).toArray.toList
          generalize wr.setCells w.heap.size 0 (wv (sched l 64)).toArray.toList = w5 at *
          clear hB0 hB1 hz
          have HL2 := Lib.hid hl2
          clear hl2
          go_wp2
          refine ret_blk rfl rfl rfl hB3 (by kernel_rfl) (by rw [HL2.out]; kernel_rfl) ⟨rfl, hb3⟩
end Go.Proofs.YtieamjjnofelcaaDoor
namespace Go.Proofs.YtieamjjnofelcaaDoor
set_option linter.unusedSimpArgs false
set_option linter.unusedVariables false
open Go.RowKit Sha

/-- The table of constants stands. -/
def GCon (w : World) : Prop := ∃ T fr, w.heap[1]? = some (.cells (wv K).toArray T fr)
theorem GCon.below {w w' : World} (h : GCon w) (hb : Below w.heap.size w w') : GCon w' := by
  obtain ⟨T, fr, hg⟩ := h
  have hlt : 1 < w.heap.size := by
    rcases Nat.lt_or_ge 1 w.heap.size with hl | hl
    · exact hl
    · exfalso; rw [Array.getElem?_eq_none hl] at hg; cases hg
  exact ⟨T, fr, (hb.block _ hlt).trans hg⟩
/-- A load of a row that may bear a mark. -/
theorem wpList_loadG {P : Program} {w : World} {ops : Array Oper} {rest : List Oper} {o : Oper} {a : Act} {Q : Exit → Act → World → Prop} (hgd : o.guard = none) {ty : TypeId} {x : Operand} (ho : o.op = .load ty x)
    {g : Nat} (hx : a.eval x = .pointer (some ⟨g, 0, none⟩)) {T : TypeId} {cs : Array Value} {fr : Nat × Nat} (hb : w.heap[g]? = some (.cells cs T fr))
    (hu : (P.underlying ty).map isAggDesc = some true) (hi : (P.info? ty).map (·.size) = some cs.size)
    (h : wpList P ops Q rest (a.put o.dst (.agg cs)) w) : wpList P ops Q (o :: rest) a w := by
  cases hd : P.underlying ty with
  | none => rw [hd] at hu; cases hu
  | some d =>
    rw [hd] at hu
    exact wpList_load_row hgd ty x ho g hx T cs fr d hb hd (by cases d <;> simp_all [isAggDesc]) hi h
structure S8.Ok (s : S8) : Prop where
  a : s.a < 4294967296
  b : s.b < 4294967296
  c : s.c < 4294967296
  d : s.d < 4294967296
  e : s.e < 4294967296
  f : s.f < 4294967296
  g : s.g < 4294967296
  h : s.h < 4294967296
theorem rnd_ok (k w : Nat) {s : S8} (h : S8.Ok s) : S8.Ok (rnd k w s) := ⟨add32_lt _ _, h.a, h.b, h.c, add32_lt _ _, h.e, h.f, h.g⟩
theorem rounds_ok (W : List Nat) {s : S8} (h : S8.Ok s) (t : Nat) : S8.Ok (rounds W s t) := by
  induction t with
  | zero => exact h
  | succ t ih => exact rnd_ok _ _ ih
theorem plus8_ok (s v : S8) : S8.Ok (plus8 s v) := ⟨add32_lt _ _, add32_lt _ _, add32_lt _ _, add32_lt _ _, add32_lt _ _, add32_lt _ _, add32_lt _ _, add32_lt _ _⟩
theorem H0_ok : S8.Ok H0 := by constructor <;> decide
theorem comp_ok (s : S8) (b : List UInt8) : S8.Ok (comp s b) := plus8_ok _ _
theorem stN_ok (m : List UInt8) (k : Nat) : S8.Ok (stN m k) := by
  cases k with
  | zero => exact H0_ok
  | succ k => exact comp_ok _ _
/-- The cells of the first four, the last four, all eight. -/
def lo4 (s : S8) : Array Value := #[.int .u32 (s.a : Nat), .int .u32 (s.b : Nat), .int .u32 (s.c : Nat), .int .u32 (s.d : Nat)]
def hi4 (s : S8) : Array Value := #[.int .u32 (s.e : Nat), .int .u32 (s.f : Nat), .int .u32 (s.g : Nat), .int .u32 (s.h : Nat)]
def all8 (s : S8) : Array Value := #[.int .u32 (s.a : Nat), .int .u32 (s.b : Nat), .int .u32 (s.c : Nat), .int .u32 (s.d : Nat), .int .u32 (s.e : Nat), .int .u32 (s.f : Nat), .int .u32 (s.g : Nat), .int .u32 (s.h : Nat)]

/-- The first i of four steps of the sum are made. -/
def part (s v : S8) (i : Nat) : Array Value :=
  #[.int .u32 ((if 0 < i then add32 s.a v.a else s.a : Nat) : Int), .int .u32 ((if 1 < i then add32 s.b v.b else s.b : Nat) : Int), .int .u32 ((if 2 < i then add32 s.c v.c else s.c : Nat) : Int), .int .u32 ((if 3 < i then add32 s.d v.d else s.d : Nat) : Int),
    .int .u32 ((if 0 < i then add32 s.e v.e else s.e : Nat) : Int), .int .u32 ((if 1 < i then add32 s.f v.f else s.f : Nat) : Int), .int .u32 ((if 2 < i then add32 s.g v.g else s.g : Nat) : Int), .int .u32 ((if 3 < i then add32 s.h v.h else s.h : Nat) : Int)]
theorem mix_lit (x : Nat) (i j k : Nat) (i' j' k' : Int) (w : World) (ei : i' = i) (ej : j' = j) (ek : k' = k) (hx : x < 4294967296) (hi0 : 1 ≤ i) (hi1 : i ≤ 31) (hj0 : 1 ≤ j) (hj1 : j ≤ 31) (hk0 : 1 ≤ k) (hk1 : k ≤ 31) :
    Calls Tryd.prog 83 #[.int .u32 (x : Nat), .int .i64 i', .int .i64 j', .int .i64 k'] w fun e w' => e = .returned (.int .u32 ((mix x i j k : Nat) : Int)) ∧ w = w' := by
  subst ei ej ek; exact mix_any x i j k w hx hi0 hi1 hj0 hj1 hk0 hk1
theorem w_not (a : Nat) : bits .xor .u32 (if IntKind.u32.signed = true then -1 else IntKind.u32.max) (a : Int) = ((not32 a : Nat) : Int) := by
  rw [show (if IntKind.u32.signed = true then -1 else IntKind.u32.max) = (4294967295 : Int) from by decide, show (4294967295 : Int) = ((4294967295 : Nat) : Int) from rfl, w_xor]
  unfold not32 xor32
  rw [Nat.xor_comm]
theorem part_four (s v : S8) : part s v 4 = all8 (plus8 s v) := by simp [part, all8, plus8]
def L4 (s : S8) : List Nat := [s.a, s.b, s.c, s.d]
def H4 (s : S8) : List Nat := [s.e, s.f, s.g, s.h]
theorem lo4_at (v : S8) (k : Nat) (h : k < 4) : (lo4 v)[k]? = some (.int .u32 ((L4 v).getD k 0 : Nat)) := by
  rcases (show k = 0 ∨ k = 1 ∨ k = 2 ∨ k = 3 by omega) with rfl | rfl | rfl | rfl <;> rfl
theorem hi4_at (v : S8) (k : Nat) (h : k < 4) : (hi4 v)[k]? = some (.int .u32 ((H4 v).getD k 0 : Nat)) := by
  rcases (show k = 0 ∨ k = 1 ∨ k = 2 ∨ k = 3 by omega) with rfl | rfl | rfl | rfl <;> rfl
theorem size_part (s v : S8) (k : Nat) : (part s v k).size = 8 := rfl
theorem part_lo (s v : S8) (k : Nat) (h : k < 4) : (part s v k)[k]? = some (.int .u32 ((L4 s).getD k 0 : Nat)) := by
  rcases (show k = 0 ∨ k = 1 ∨ k = 2 ∨ k = 3 by omega) with rfl | rfl | rfl | rfl <;> rfl
theorem part_hi (s v : S8) (k : Nat) (u : Value) (h : k < 4) : ((part s v k).setIfInBounds k u)[k + 4]? = some (.int .u32 ((H4 s).getD k 0 : Nat)) := by
  rcases (show k = 0 ∨ k = 1 ∨ k = 2 ∨ k = 3 by omega) with rfl | rfl | rfl | rfl <;> rfl
theorem part_next (s v : S8) (k x y x' y' : Nat) (h : k < 4) (hx : x = (L4 v).getD k 0) (hy : y = (L4 s).getD k 0) (hx' : x' = (H4 v).getD k 0) (hy' : y' = (H4 s).getD k 0) :
    ((part s v k).setIfInBounds k (.int .u32 ((add32 y x : Nat) : Int))).setIfInBounds (k + 4) (.int .u32 ((add32 y' x' : Nat) : Int)) = part s v (k + 1) := by
  subst hx hy hx' hy'
  rcases (show k = 0 ∨ k = 1 ∨ k = 2 ∨ k = 3 by omega) with rfl | rfl | rfl | rfl <;> rfl
end Go.Proofs.YtieamjjnofelcaaDoor
