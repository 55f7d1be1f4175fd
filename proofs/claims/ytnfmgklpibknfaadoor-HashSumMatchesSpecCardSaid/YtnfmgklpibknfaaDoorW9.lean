/-
  The walk of HashSumMatchesSpec. Conditions: the tables read as the program lays them.
-/
import Derived.Test.YtnfmgklpibknfaaDoorRWrap
namespace Go.Proofs.YtnfmgklpibknfaaDoor
set_option linter.unusedSimpArgs false
set_option linter.unusedVariables false
open Go.RowKit Sha Crc
set_option maxHeartbeats 2000000 in
set_option maxRecDepth 100000 in
theorem walkHashSumMatchesSpec (A : Option Addr) (n c : Nat) (l : List UInt8) (w : World) (hnc : n ≤ c) (hcm : c ≤ maxLen) (hl : l.length = n) (hr : Rd w A n (bv l)) (hN : GNib w) (hC : GCon w) (hRC : RCon w) :
    Calls Tryd.prog 11 #[.slice A n c] w fun e w' => e = .returned (.bool true) ∧ Below w.heap.size w w' := by
  have HL := Lib.hid hl
  clear hl
  unfold maxLen at hcm
  by_cases h600 : 600 < n
  · go_enter Tryd.func11, Tryd.ntmps11
    go_wp2_with fail
    refine (sanity_any w hN hC).mono ?_
    rintro e w1 ⟨rfl, hb1⟩
    go_wp2
    go_ret
    exact ⟨rfl, hb1⟩
  · have HS := shaOf l (by rw [HL.out]; omega)
    have HQ := Lib.hid (fun (A : Option Addr) (n c : Nat) (W : World) (hn : n ≤ 268435456) (hr : Rd W A n (bv l)) (hR : RCon W) => refSum_any A n c l W hn hr hR)
    generalize sha l = S at *
    have hq := fun W => eql_32_same S HS.len W
    go_enter Tryd.func11, Tryd.ntmps11
    go_wp2_with fail
    refine (sanity_any w hN hC).mono ?_
    rintro e w1 ⟨rfl, hb⟩
    have hr1 := hr.below hb
    go_wp2_with (refine wpList_bts rfl rfl bytesTy strTy rfl hr1 ?_)
    refine (HS.whole A n c _ hr1 (hC.below hb)).mono ?_
    rintro e w2 ⟨rfl, hb2⟩
    replace hb := hb.trans (hb2.mono hb.size)
    have hsz : (bv S).toArray.size = 32 := by simp [HS.len]
    have hR0 := size_row32 [] (by simp)
    have HSZ := Lib.hid hsz
    clear hb2 hr1
    dsimp only
    go_step
    refine wpList_newRow rfl rfl rfl rfl (zero_32 _) (fun _ => rfl) (fun _ => rfl) (by rw [hsz, hR0]) (by rw [hsz]; kernel_rfl) (all_bv _) ?_
    intro w3 g5 hg5 h5 hb2 hlt5
    replace hb := hb.trans (hb2.mono hb.size)
    clear hb2 hg5 hsz hR0
    have hr3 := hr.below hb
    have hR3 := hRC.below hb
    have HLS := Lib.hid (show (⟨l.toArray⟩ : ByteArray).size = n from HL.out)
    simp only [Act.put]
    go_upto_region 6 with (fail)
    have hS0 : Below w3.heap.size w3 w3.drew := (Below.refl _ w3).drew
    refine wp_region_T 14 (by kernel_rfl) ?_
    -- region 6: 15 operations, tail from 14
    refine WpT.take (i := 0) rfl (by kernel_rfl) (fun _ _ _ h => h) (.inl ⟨by rfl, fun w hSw => by clear hSw; go_simp; (try go_bits); (try rw [if_pos (by omega)]); (try with_reducible rfl)⟩) ((Below.refl _ _).drew) ?_
    try simp only [Act.put, List.setIfInBounds_toArray, List.set_cons_zero, List.set_cons_succ]
    refine WpT.take (i := 1) rfl (by kernel_rfl) (fun _ _ _ h => h) (.inl ⟨by rfl, fun w hSw => by clear hSw; go_simp; (try go_bits); (try rw [if_pos (by omega)]); (try with_reducible rfl)⟩) ((Below.refl _ _).drew) ?_
    try simp only [Act.put, List.setIfInBounds_toArray, List.set_cons_zero, List.set_cons_succ]
    refine WpT.take (i := 2) rfl (by kernel_rfl) (fun _ _ _ h => h) (yields_blkG rfl rfl rfl (by kernel_rfl) (by rw [HSZ.out]; kernel_rfl) h5) ((Below.refl _ _).drew) ?_
    try simp only [Act.put, List.setIfInBounds_toArray, List.set_cons_zero, List.set_cons_succ]
    refine WpT.take (i := 3) rfl (by kernel_rfl) (fun _ _ _ h => h) (.inl ⟨by rfl, fun w hSw => by clear hSw; go_simp; (try go_bits); (try rw [if_pos (by omega)]); (try with_reducible rfl)⟩) ((Below.refl _ _).drew) ?_
    try simp only [Act.put, List.setIfInBounds_toArray, List.set_cons_zero, List.set_cons_succ]
    refine WpT.one (i := 4) rfl (by kernel_rfl) (fun K hK => ?_)
    rw [if_pos (by rfl)]; refine wp_stb rfl bytesTy strTy rfl ?_; intro A4 c4 w4 hr4 hb4 _; have hS4 : Below w3.heap.size w3 w4 := bstep hS0 hb4
    refine hK _ _ (hS4) ?_; clear hK K; try simp only [Act.put, List.setIfInBounds_toArray, List.set_cons_zero, List.set_cons_succ]
    refine WpT.one (i := 5) rfl (by kernel_rfl) (fun K hK => ?_)
    go_simp; refine (HQ.out A4 _ c4 _ (by show l.length ≤ _; rw [HL.out]; omega) hr4 (by exact hR3.below hS4)).mono ?_; rintro e w6 ⟨rfl, hb6⟩; have hS6 : Below w3.heap.size w3 w6 := bstep hS4 hb6
    refine hK _ _ (hS6) ?_; clear hK K; try simp only [Act.put, List.setIfInBounds_toArray, List.set_cons_zero, List.set_cons_succ]
    refine WpT.take (i := 6) rfl (by kernel_rfl) (fun _ _ _ h => h) (.inl ⟨by rfl, fun w hSw => by clear hSw; go_simp; (try go_bits); (try rw [if_pos (by omega)]); (try with_reducible rfl)⟩) (hS6) ?_
    try simp only [Act.put, List.setIfInBounds_toArray, List.set_cons_zero, List.set_cons_succ]
    refine WpT.take (i := 7) rfl (by kernel_rfl) (fun _ _ _ h => h) (.inl ⟨by rfl, fun w hSw => by clear hSw; go_simp; (try go_bits); (try rw [if_pos (by omega)]); (try with_reducible rfl)⟩) (hS6) ?_
    try simp only [Act.put, List.setIfInBounds_toArray, List.set_cons_zero, List.set_cons_succ]
    refine WpT.take (i := 8) rfl (by kernel_rfl) (fun _ _ _ h => h) (.inl ⟨by rfl, fun w hSw => by clear hSw; go_simp; (try go_bits); (try rw [if_pos (by omega)]); (try with_reducible rfl)⟩) (hS6) ?_
    try simp only [Act.put, List.setIfInBounds_toArray, List.set_cons_zero, List.set_cons_succ]
    refine WpT.take (i := 9) rfl (by kernel_rfl) (fun _ _ _ h => h) (.inl ⟨by rfl, fun w hSw => by clear hSw; go_simp; (try go_bits); (try rw [if_pos (by omega)]); (try with_reducible rfl)⟩) (hS6) ?_
    try simp only [Act.put, List.setIfInBounds_toArray, List.set_cons_zero, List.set_cons_succ]
    refine WpT.take (i := 10) rfl (by kernel_rfl) (fun _ _ _ h => h) (yields_btsG rfl rfl bytesTy strTy rfl hr3) (hS6) ?_
    try simp only [Act.put, List.setIfInBounds_toArray, List.set_cons_zero, List.set_cons_succ]
    refine WpT.take (i := 11) rfl (by kernel_rfl) (fun _ _ _ h => h) (.inl ⟨by rfl, fun w hSw => by clear hSw; go_simp; (try go_bits); (try rw [if_pos (by omega)]); (try with_reducible rfl)⟩) (hS6) ?_
    try simp only [Act.put, List.setIfInBounds_toArray, List.set_cons_zero, List.set_cons_succ]
    refine WpT.take (i := 12) rfl (by kernel_rfl) (fun _ _ _ h => h) (.inl ⟨by rfl, fun w hSw => by clear hSw; go_simp; (try go_bits); (try rw [if_pos (by omega)]); (try with_reducible rfl)⟩) (hS6) ?_
    try simp only [Act.put, List.setIfInBounds_toArray, List.set_cons_zero, List.set_cons_succ]
    refine WpT.take (i := 13) rfl (by kernel_rfl) (fun _ _ _ h => h) (.inl ⟨by rfl, fun w hSw => by clear hSw; go_simp; (try go_bits); (try rw [if_pos (by omega)]); (try with_reducible rfl)⟩) (hS6) ?_
    try simp only [Act.put, List.setIfInBounds_toArray, List.set_cons_zero, List.set_cons_succ]
    refine WpT.tail (i := 14) rfl (by kernel_rfl) (by kernel_rfl) (fun K hK => ?_)
    go_simp; (try go_bits)
    refine hK _ _ ?_; clear hK K; try simp only [Act.put, List.setIfInBounds_toArray, List.set_cons_zero, List.set_cons_succ]
    refine WpT.done (by kernel_rfl) ?_ _
    go_wp2
    go_ret
    exact ⟨rfl, hb.trans (hS6.mono hb.size)⟩
end Go.Proofs.YtnfmgklpibknfaaDoor
