/-
  What the functions of the check of 40 bits compute: one contract each. Condition: the table of nibbles reads as the program lays it.
-/
import Derived.Test.YtnfmgklpibknfaaDoorRegion
import Derived.Test.YtnfmgklpibknfaaDoorCrc
namespace Go.Proofs.YtnfmgklpibknfaaDoor
set_option linter.unusedSimpArgs false
set_option linter.unusedVariables false
open Go.RowKit Crc

/-- The table of nibbles stands. -/
def GNib (w : World) : Prop := ∀ k, k < 16 → w.cell? ⟨1, k, none⟩ = some (.int .u64 (tab.getD k 0 : Nat))
theorem GNib.lt {w : World} (h : GNib w) : 1 < w.heap.size := World.block_lt_of_cell? w _ (h 0 (by omega))
theorem GNib.below {w w' : World} (h : GNib w) (hb : Below w.heap.size w w') : GNib w' := fun k hk => (hb.cell (p := ⟨_, k, none⟩) h.lt).trans (h k hk)

theorem nib_word (r : BitVec 40) (n i : Nat) (hi : i = ((r.toNat / 68719476736) ^^^ n) % 16) :
    bits .xor .u64 (bits .and .u64 ((r.toNat : Int) * 16) 1099511627775) ((tab.getD i 0 : Nat) : Int) = ((nib r n).toNat : Int) := by
  have hr := r.isLt
  have ht : tab.getD i 0 < 1099511627776 := by
    have : i < 16 := by omega
    rcases i with _|_|_|_|_|_|_|_|_|_|_|_|_|_|_|_|i <;> first | decide | omega
  have e1 : (r.toNat : Int) * 16 = ((r.toNat * 16 : Nat) : Int) := by omega
  rw [e1, show (1099511627775 : Int) = ((1099511627775 : Nat) : Int) from rfl, u64_and_nat _ _ (by omega) (by omega), u64_xor_nat]
  · congr 1
    rw [nib, BitVec.toNat_xor, BitVec.toNat_shiftLeft, BitVec.toNat_ofNat, BitVec.toNat_ushiftRight, Nat.shiftRight_eq_div_pow, Nat.shiftLeft_eq]
    have : r.toNat * 16 &&& 1099511627775 = r.toNat * 16 % 2 ^ 40 := Nat.and_two_pow_sub_one_eq_mod _ 40
    rw [this, ← hi, Nat.mod_eq_of_lt (a := tab.getD i 0) (by omega)]
  · have := @Nat.and_le_right (r.toNat * 16) 1099511627775; omega
  · omega

set_option maxHeartbeats 400000 in
theorem nibble_any (r : BitVec 40) (n : Nat) (w : World) (hn : n < 256) (hg : GNib w) :
    Calls Tryd.prog 41 #[.agg #[.int .u64 (r.toNat : Nat)], .int .u8 (n : Nat)] w fun e w' => e = .returned (.agg #[.int .u64 ((nib r n).toNat : Nat)]) ∧ Below w.heap.size w w' := by
  have hr := r.isLt
  have hlt := hg.lt
  have hfin := nib_word r n _ rfl
  have hx : (r.toNat / 68719476736) ^^^ n < 256 := Nat.xor_lt_two_pow (n := 8) (by omega) (by omega)
  have hi : bits BinOp.xor IntKind.u8 ((r.toNat : Int) / 68719476736) (n : Int) = (((r.toNat / 68719476736) ^^^ n : Nat) : Int) := by
    rw [show (r.toNat : Int) / 68719476736 = ((r.toNat / 68719476736 : Nat) : Int) from rfl]
    exact u8_xor_nat _ _ (by omega) hn
  generalize (r.toNat / 68719476736) ^^^ n = i at *
  have hc := hg (i % 16) (by omega)
  have h0 : (0:Int) ≤ ((i % 16 : Nat) : Int) := by omega
  have h1 : ((i % 16 : Nat) : Int) < 16 := by omega
  have hz0 : 0 < w.heap.size := by omega
  have hz2 : 1 < w.heap.size + 1 := by omega
  have HF := Lib.hid hfin
  clear hg hfin
  generalize r.toNat = rn at *
  generalize nib r n = res at *
  have hi' : bits BinOp.and IntKind.u8 i 15 = ((i % 16 : Nat) : Int) := by
    rw [show (15 : Int) = ((15 : Nat) : Int) from rfl, u8_and_nat _ _ (by omega) (by omega), nat_mask4]
  generalize tab.getD (i % 16) 0 = tv at *
  go_enter Tryd.func41, Tryd.ntmps41
  go_wp2
  go_region
  go_wp2
  refine bodyPost_ret (v := .agg #[.int .u64 (res.toNat : Nat)]) (by simp [results, Tryd.results41, go_sem, HF.out]) rfl ⟨rfl, ?_⟩
  exact (((Below.refl _ _).alloc (by simp) _).alloc (by simp) _).drew

theorem nibble_int (r : BitVec 40) (n : Int) (w : World) (h0 : 0 ≤ n) (hn : n < 256) (hg : GNib w) :
    Calls Tryd.prog 41 #[.agg #[.int .u64 (r.toNat : Nat)], .int .u8 n] w fun e w' => e = .returned (.agg #[.int .u64 ((nib r n.toNat).toNat : Nat)]) ∧ Below w.heap.size w w' := by
  obtain ⟨m, rfl⟩ := Int.eq_ofNat_of_zero_le h0
  exact nibble_any r m w (by omega) hg

set_option maxHeartbeats 400000 in
theorem beginCrc_any (w : World) : Calls Tryd.prog 19 #[] w fun e w' => e = .returned (.agg #[.int .u64 (ones.toNat : Nat)]) ∧ Below w.heap.size w w' := by
  go_enter Tryd.func19, Tryd.ntmps19
  go_wp2
  refine bodyPost_ret (v := .agg #[.int .u64 1099511627775]) (by simp [results, Tryd.results19, go_sem]) rfl ⟨rfl, ?_⟩
  exact (Below.refl _ _).alloc (by simp) _

set_option maxHeartbeats 400000 in
theorem crcValue_any (r : BitVec 40) (w : World) : Calls Tryd.prog 22 #[.agg #[.int .u64 (r.toNat : Nat)]] w fun e w' => e = .returned (.int .i64 ((r ^^^ ones).toNat : Nat)) ∧ Below w.heap.size w w' := by
  have hr := r.isLt
  have hfin : bits .xor .u64 (r.toNat : Int) 1099511627775 = ((r ^^^ ones).toNat : Int) := by
    rw [show (1099511627775 : Int) = ((1099511627775 : Nat) : Int) from rfl, u64_xor_nat _ _ (by omega) (by omega), BitVec.toNat_xor]
    rfl
  have hlt := (r ^^^ ones).isLt
  generalize (r ^^^ ones).toNat = s at *
  generalize r.toNat = rn at *
  go_enter Tryd.func22, Tryd.ntmps22
  go_wp2
  go_ret
  exact ⟨rfl, (Below.refl _ _).alloc (by simp) _⟩

set_option maxHeartbeats 1000000 in
theorem crcAdd_any (r : BitVec 40) (s : ByteArray) (w : World) (hs : s.size ≤ maxLen) (hg : GNib w) :
    Calls Tryd.prog 20 #[.agg #[.int .u64 (r.toNat : Nat)], .string s] w fun e w' => e = .returned (.agg #[.int .u64 ((crcR r s.data.toList).toNat : Nat)]) ∧ Below w.heap.size w w' := by
  unfold maxLen at hs
  have hgl := hg.lt
  go_enter Tryd.func20, Tryd.ntmps20
  go_wp2
  go_loopw [5, 8] (fun _ i wr => ∃ k : Nat, k ≤ s.size ∧ i = .int .i64 k ∧ Below w.heap.size w wr ∧
      Blk wr w.heap.size 30 #[.int .u64 ((crcR r (s.data.toList.take k)).toNat : Nat)] ∧ Blk wr (w.heap.size + 1) 30 #[.int .u64 0])
    (fun _ i _ => s.size - (intOf i).toNat)
  case atStart =>
    exact ⟨0, Nat.zero_le _, rfl, ((Below.refl _ _).alloc (by simp) _).alloc (by simp) _, (Blk.new _ _ _).alloc _, Blk.new2 _ _ _ _⟩
  case round =>
    obtain ⟨k, hk, rfl, hb, hB0, hB1⟩ := hrel
    have hc0 := hB0.cell 0
    have hf0 := hB0.free 0
    have hc1 := hB1.cell 0
    have hf1 := hB1.free 0
    simp at hc0 hc1
    by_cases hlt : k < s.size
    · have hg1 : GNib wr := hg.below hb
      have hsn : crcR r (s.data.toList.take (k + 1)) = nib (nib (crcR r (s.data.toList.take k)) (s[k].toNat / 16)) s[k].toNat := by
        rw [List.take_succ_eq_append_getElem (by simpa using hlt), crcR_snoc]; rfl
      have HS := Lib.hid hsn
      clear hsn
      have hbt : s[k].toNat < 256 := s[k].toNat_lt
      generalize crcR r (s.data.toList.take k) = rk at *
      go_wp2
      refine wp_region_T 10 (by kernel_rfl) ?_
      -- region 4: 11 operations, tail from 10
      refine WpT.take (i := 0) rfl (by kernel_rfl) (fun _ _ _ h => h) (yields_blk rfl rfl rfl (by kernel_rfl) (by kernel_rfl) (by assumption)) ((Below.refl _ _).drew) ?_
      try simp only [Act.put, List.setIfInBounds_toArray, List.set_cons_zero, List.set_cons_succ]
      refine WpT.take (i := 1) rfl (by kernel_rfl) (fun _ _ _ h => h) (.inl ⟨by rfl, fun w hSw => by clear hSw; go_simp; (try go_bits); (try rw [if_pos (by omega)]); (try with_reducible rfl)⟩) ((Below.refl _ _).drew) ?_
      try simp only [Act.put, List.setIfInBounds_toArray, List.set_cons_zero, List.set_cons_succ]
      refine WpT.take (i := 2) rfl (by kernel_rfl) (fun _ _ _ h => h) (.inl ⟨by rfl, fun w hSw => by clear hSw; go_simp; (try go_bits); (try rw [if_pos (by omega)]); (try with_reducible rfl)⟩) ((Below.refl _ _).drew) ?_
      try simp only [Act.put, List.setIfInBounds_toArray, List.set_cons_zero, List.set_cons_succ]
      refine WpT.take (i := 3) rfl (by kernel_rfl) (fun _ _ _ h => h) (.inl ⟨by rfl, fun w hSw => by clear hSw; go_simp; (try go_bits); (try rw [if_pos (by omega)]); (try with_reducible rfl)⟩) ((Below.refl _ _).drew) ?_
      try simp only [Act.put, List.setIfInBounds_toArray, List.set_cons_zero, List.set_cons_succ]
      refine WpT.take (i := 4) rfl (by kernel_rfl) (fun _ _ _ h => h) (.inl ⟨by rfl, fun w hSw => by clear hSw; go_simp; (try go_bits); (try rw [if_pos (by omega)]); (try with_reducible rfl)⟩) ((Below.refl _ _).drew) ?_
      try simp only [Act.put, List.setIfInBounds_toArray, List.set_cons_zero, List.set_cons_succ]
      refine WpT.take (i := 6) rfl (by kernel_rfl) (fun _ _ _ h => h) (.inl ⟨by rfl, fun w hSw => by clear hSw; go_simp; (try go_bits); (try rw [if_pos (by omega)]); (try with_reducible rfl)⟩) ((Below.refl _ _).drew) ?_
      try simp only [Act.put, List.setIfInBounds_toArray, List.set_cons_zero, List.set_cons_succ]
      refine WpT.take (i := 7) rfl (by kernel_rfl) (fun _ _ _ h => h) (.inl ⟨by rfl, fun w hSw => by clear hSw; go_simp; (try go_bits); (try rw [if_pos (by omega)]); (try with_reducible rfl)⟩) ((Below.refl _ _).drew) ?_
      try simp only [Act.put, List.setIfInBounds_toArray, List.set_cons_zero, List.set_cons_succ]
      refine WpT.take (i := 8) rfl (by kernel_rfl) (fun _ _ _ h => h) (.inl ⟨by rfl, fun w hSw => by clear hSw; go_simp; (try go_bits); (try rw [if_pos (by omega)]); (try with_reducible rfl)⟩) ((Below.refl _ _).drew) ?_
      try simp only [Act.put, List.setIfInBounds_toArray, List.set_cons_zero, List.set_cons_succ]
      refine WpT.one (i := 5) rfl (by kernel_rfl) (fun K hK => ?_)
      go_simp; refine (nibble_int _ _ _ (by omega) (by omega) (by exact hg1)).mono ?_; rintro e w1 ⟨rfl, hb1⟩; have hS1 : Below wr.heap.size wr w1 := bstep (Below.refl _ wr).drew hb1
      refine hK _ _ (hS1) ?_; clear hK K; try simp only [Act.put, List.setIfInBounds_toArray, List.set_cons_zero, List.set_cons_succ]
      refine WpT.one (i := 9) rfl (by kernel_rfl) (fun K hK => ?_)
      go_simp; refine (nibble_int _ _ _ (by omega) (by omega) (by exact hg1.below hS1)).mono ?_; rintro e w2 ⟨rfl, hb2⟩; have hS2 := bstep hS1 hb2; have hc2 := cell_later hS2 hc0; have hf2 : w2.frozen? ⟨w.heap.size, 0, none⟩ = false := (hB0.below hS2).free 0
      refine hK _ _ (hS2) ?_; clear hK K; try simp only [Act.put, List.setIfInBounds_toArray, List.set_cons_zero, List.set_cons_succ]
      refine WpT.tail (i := 10) rfl (by kernel_rfl) (by kernel_rfl) (fun K hK => ?_)
      go_simp; (try go_bits)
      refine hK _ _ ?_; clear hK K; try simp only [Act.put, List.setIfInBounds_toArray, List.set_cons_zero, List.set_cons_succ]
      refine WpT.done (by kernel_rfl) ?_ _
      go_wp2
      refine ⟨⟨k + 1, by omega, by go_num, (hb.trans (hS2.mono hb.size)).setCell (by simp) _, ?_, (hB1.below hS2).far (by simp) _⟩, by simp [intOf]; omega⟩
      rw [HS.out]
      exact (hB0.below hS2).set 0 _
    · obtain rfl : k = s.size := by omega
      have ht : s.data.toList.take s.size = s.data.toList := List.take_of_length_le (by simp)
      have hfin : Blk (wr.setCell ⟨w.heap.size + 1, 0, none⟩ (.int .u64 ((crcR r s.data.toList).toNat : Nat))) (w.heap.size + 1) 30 #[.int .u64 ((crcR r s.data.toList).toNat : Nat)] := hB1.set 0 _
      rw [ht] at hc0
      clear hB0 hB1
      have HF := Lib.hid hfin
      clear hfin
      go_wp2
      refine ret_blk rfl rfl rfl HF.out (by kernel_rfl) (by kernel_rfl) ⟨rfl, ?_⟩
      exact hb.setCell (by simp) _
end Go.Proofs.YtnfmgklpibknfaaDoor
