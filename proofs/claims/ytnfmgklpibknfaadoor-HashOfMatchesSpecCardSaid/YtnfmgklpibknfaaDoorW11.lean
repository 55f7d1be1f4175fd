/-
  The walk of HashOfMatchesSpec. Conditions: the tables read as the program lays them.
-/
import Derived.Test.YtnfmgklpibknfaaDoorShort
import Derived.Test.YtnfmgklpibknfaaDoorFew
namespace Go.Proofs.YtnfmgklpibknfaaDoor
set_option linter.unusedSimpArgs false
set_option linter.unusedVariables false
open Go.RowKit Sha Crc
theorem i64_and255 (a : Int) : bits .and .i64 a 255 = a % 256 := by
  show IntKind.i64.wrap ((BitVec.ofInt 64 a &&& BitVec.ofInt 64 255).toNat : Int) = _
  rw [BitVec.toNat_and, show (BitVec.ofInt 64 255).toNat = 2 ^ 8 - 1 from by decide, Nat.and_two_pow_sub_one_eq_mod, BitVec.toNat_ofInt, IntKind.wrap_i64]
  omega
theorem inputL_mod (t : Int) (l : List ByteArray) : inputL (t % 256) l = inputL t l := by
  unfold inputL byteOf
  rw [Int.emod_emod_of_dvd t (by decide : (256 : Int) ∣ 256)]
set_option maxHeartbeats 2000000 in
set_option maxRecDepth 100000 in
theorem walkHashOfMatchesSpec (tag : Int) (A : Option Addr) (n c : Nat) (l : List ByteArray) (w : World) (ft : (Lit.int .i64 tag).wf = true) (x0 : n ≤ c) (y0 : c ≤ maxLen) (z0 : l.length = n) (r0 : Rd w A n (sv l)) (e0 : ∀ s ∈ l, s.size ≤ maxLen)
    (hN : GNib w) (hC : GCon w) (hRC : RCon w) :
    Calls Tryd.prog 13 #[.int .i64 tag, .slice A n c] w fun e w' => e = .returned (.bool true) ∧ Below w.heap.size w w' := by
  have Z0 := Lib.hid z0
  have E0 := Lib.hid (show ∀ s ∈ l, s.size ≤ 9223372036854775807 from e0)
  clear z0 e0 ft
  unfold maxLen at y0
  by_cases hfew : fewB l = true
  case neg =>
    have hfalse : fewB l = false := by simpa using hfew
    go_enter Tryd.func13, Tryd.ntmps13
    go_wp2_with fail
    refine (sanity_any w hN hC).mono ?_
    rintro e w1 ⟨rfl, hb⟩
    go_wp2_with fail
    refine (few_any A n c l _ (by omega) (r0.below hb) E0.out).mono ?_
    rintro e w' ⟨he, rfl⟩
    rw [hfalse] at he
    subst he
    go_wp2
    go_ret
    exact ⟨rfl, hb⟩
  have FY := Lib.hid (fewB_yes hfew)
  have h12 : n ≤ 12 := by have := FY.out.1; rw [Z0.out] at this; exact this
  have HF := Lib.hid hfew
  clear hfew
  have HO := Lib.hid (fun (W : World) (hr : Rd W A n (sv l)) (hg : GCon W) => of_any tag A n c l W (by omega) (fun s hs => by have := FY.out.2 s hs; omega) hr hg)
  have HM := Lib.hid (fun (W : World) (hr : Rd W A n (sv l)) (hg : GCon W) => of_any (tag % 256) A n c l W (by omega) (fun s hs => by have := FY.out.2 s hs; omega) hr hg)
  have HR := Lib.hid (fun (W : World) (hr : Rd W A n (sv l)) (hR : RCon W) => refOf_any tag A n c l W h12 FY.out.2 hr hR)
  rw [inputL_mod] at HM
  have hdl := length_dig16 (inputL tag l)
  generalize dig16 (inputL tag l) = D at *
  have hq := fun W => eql_16_same D hdl W
  have e1 := i64_and255
  have hD : (bv D).toArray.size = 16 := by simp [hdl]
  have HD := Lib.hid hD
  have HDL := Lib.hid hdl
  clear hD hdl
  go_enter Tryd.func13, Tryd.ntmps13
  go_wp2_with fail
  refine (sanity_any w hN hC).mono ?_
  rintro e w1 ⟨rfl, hb⟩
  go_wp2_with fail
  refine (few_any A n c l _ (by omega) (r0.below hb) E0.out).mono ?_
  rintro e w' ⟨he, rfl⟩
  rw [HF.out] at he
  subst he
  go_wp2_with fail
  refine (HO.out _ (r0.below hb) (hC.below hb)).mono ?_
  rintro e w2 ⟨rfl, hb2⟩
  replace hb := hb.trans (hb2.mono hb.size)
  have h160 : zero16.size = 16 := by simp [zero16]
  clear hb2
  dsimp only
  go_step
  refine wpList_newRow rfl rfl rfl rfl (zero_16 _) (fun _ => rfl) (fun _ => rfl) (by rw [HD.out, h160]) (by rw [HD.out]; kernel_rfl) (all_bv _) ?_
  intro w3 g6 hg6 h6 hb2 hlt6
  replace hb := hb.trans (hb2.mono hb.size)
  clear hb2 hg6 h160
  have hr3 := r0.below hb
  have hR3 := hRC.below hb
  have hC3 := hC.below hb
  simp only [Act.put]
  go_upto_region 5 with (fail)
  have hS0 : Below w3.heap.size w3 w3.drew := (Below.refl _ w3).drew
  refine wp_region_T 16 (by kernel_rfl) ?_
  -- region 5: 17 operations, tail from 16
  refine WpT.take (i := 0) rfl (by kernel_rfl) (fun _ _ _ h => h) (.inl ⟨by rfl, fun w hSw => by clear hSw; go_simp; (try go_bits); (try rw [if_pos (by omega)]); (try with_reducible rfl)⟩) ((Below.refl _ _).drew) ?_
  try simp only [Act.put, List.setIfInBounds_toArray, List.set_cons_zero, List.set_cons_succ]
  refine WpT.take (i := 1) rfl (by kernel_rfl) (fun _ _ _ h => h) (.inl ⟨by rfl, fun w hSw => by clear hSw; go_simp; (try go_bits); (try rw [if_pos (by omega)]); (try with_reducible rfl)⟩) ((Below.refl _ _).drew) ?_
  try simp only [Act.put, List.setIfInBounds_toArray, List.set_cons_zero, List.set_cons_succ]
  refine WpT.take (i := 2) rfl (by kernel_rfl) (fun _ _ _ h => h) (yields_blkG rfl rfl rfl (by kernel_rfl) (by rw [HD.out]; kernel_rfl) h6) ((Below.refl _ _).drew) ?_
  try simp only [Act.put, List.setIfInBounds_toArray, List.set_cons_zero, List.set_cons_succ]
  refine WpT.take (i := 3) rfl (by kernel_rfl) (fun _ _ _ h => h) (.inl ⟨by rfl, fun w hSw => by clear hSw; go_simp; (try go_bits); (try rw [if_pos (by omega)]); (try with_reducible rfl)⟩) ((Below.refl _ _).drew) ?_
  try simp only [Act.put, List.setIfInBounds_toArray, List.set_cons_zero, List.set_cons_succ]
  refine WpT.take (i := 4) rfl (by kernel_rfl) (fun _ _ _ h => h) (.inl ⟨by rfl, fun w hSw => by clear hSw; go_simp; (try go_bits); (try rw [if_pos (by omega)]); (try with_reducible rfl)⟩) ((Below.refl _ _).drew) ?_
  try simp only [Act.put, List.setIfInBounds_toArray, List.set_cons_zero, List.set_cons_succ]
  refine WpT.one (i := 5) rfl (by kernel_rfl) (fun K hK => ?_)
  go_simp; refine (HR.out _ (hr3.below (by assumption)) (hR3.below (by assumption))).mono ?_; rintro e w6 ⟨rfl, hb6⟩; have hS6 : Below w3.heap.size w3 w6 := bstep (by assumption) hb6
  refine hK _ _ (by assumption) ?_; clear hK K; try simp only [Act.put, List.setIfInBounds_toArray, List.set_cons_zero, List.set_cons_succ]
  refine WpT.take (i := 6) rfl (by kernel_rfl) (fun _ _ _ h => h) (.inl ⟨by rfl, fun w hSw => by clear hSw; go_simp; (try go_bits); (try rw [if_pos (by omega)]); (try with_reducible rfl)⟩) (by assumption) ?_
  try simp only [Act.put, List.setIfInBounds_toArray, List.set_cons_zero, List.set_cons_succ]
  refine WpT.take (i := 7) rfl (by kernel_rfl) (fun _ _ _ h => h) (.inl ⟨by rfl, fun w hSw => by clear hSw; go_simp; (try go_bits); (try rw [if_pos (by omega)]); (try with_reducible rfl)⟩) (by assumption) ?_
  try simp only [Act.put, List.setIfInBounds_toArray, List.set_cons_zero, List.set_cons_succ]
  refine WpT.take (i := 8) rfl (by kernel_rfl) (fun _ _ _ h => h) (.inl ⟨by rfl, fun w hSw => by clear hSw; go_simp; (try go_bits); (try rw [if_pos (by omega)]); (try with_reducible rfl)⟩) (by assumption) ?_
  try simp only [Act.put, List.setIfInBounds_toArray, List.set_cons_zero, List.set_cons_succ]
  refine WpT.take (i := 9) rfl (by kernel_rfl) (fun _ _ _ h => h) (yields_blkG rfl rfl rfl (by kernel_rfl) (by rw [HD.out]; kernel_rfl) h6) (by assumption) ?_
  try simp only [Act.put, List.setIfInBounds_toArray, List.set_cons_zero, List.set_cons_succ]
  refine WpT.take (i := 10) rfl (by kernel_rfl) (fun _ _ _ h => h) (.inl ⟨by rfl, fun w hSw => by clear hSw; go_simp; (try go_bits); (try rw [if_pos (by omega)]); (try with_reducible rfl)⟩) (by assumption) ?_
  try simp only [Act.put, List.setIfInBounds_toArray, List.set_cons_zero, List.set_cons_succ]
  refine WpT.take (i := 11) rfl (by kernel_rfl) (fun _ _ _ h => h) (.inl ⟨by rfl, fun w hSw => by clear hSw; go_simp; (try go_bits); (try rw [if_pos (by omega)]); (try with_reducible rfl)⟩) (by assumption) ?_
  try simp only [Act.put, List.setIfInBounds_toArray, List.set_cons_zero, List.set_cons_succ]
  refine WpT.take (i := 12) rfl (by kernel_rfl) (fun _ _ _ h => h) (.inl ⟨by rfl, fun w hSw => by clear hSw; go_simp; (try go_bits); (try rw [if_pos (by omega)]); (try with_reducible rfl)⟩) (by assumption) ?_
  try simp only [Act.put, List.setIfInBounds_toArray, List.set_cons_zero, List.set_cons_succ]
  refine WpT.one (i := 13) rfl (by kernel_rfl) (fun K hK => ?_)
  go_simp; refine (HM.out _ (hr3.below (by assumption)) (hC3.below (by assumption))).mono ?_; rintro e w8 ⟨rfl, hb8⟩; have hS8 : Below w3.heap.size w3 w8 := bstep (by assumption) hb8
  refine hK _ _ (by assumption) ?_; clear hK K; try simp only [Act.put, List.setIfInBounds_toArray, List.set_cons_zero, List.set_cons_succ]
  refine WpT.take (i := 14) rfl (by kernel_rfl) (fun _ _ _ h => h) (.inl ⟨by rfl, fun w hSw => by clear hSw; go_simp; (try go_bits); (try rw [if_pos (by omega)]); (try with_reducible rfl)⟩) (by assumption) ?_
  try simp only [Act.put, List.setIfInBounds_toArray, List.set_cons_zero, List.set_cons_succ]
  refine WpT.take (i := 15) rfl (by kernel_rfl) (fun _ _ _ h => h) (.inl ⟨by rfl, fun w hSw => by clear hSw; go_simp; (try go_bits); (try rw [if_pos (by omega)]); (try with_reducible rfl)⟩) (by assumption) ?_
  try simp only [Act.put, List.setIfInBounds_toArray, List.set_cons_zero, List.set_cons_succ]
  refine WpT.tail (i := 16) rfl (by kernel_rfl) (by kernel_rfl) (fun K hK => ?_)
  go_simp; (try go_bits)
  refine hK _ _ ?_; clear hK K; try simp only [Act.put, List.setIfInBounds_toArray, List.set_cons_zero, List.set_cons_succ]
  refine WpT.done (by kernel_rfl) ?_ _
  go_wp2
  go_ret
  exact ⟨rfl, hb.trans (hS8.mono hb.size)⟩
end Go.Proofs.YtnfmgklpibknfaaDoor
