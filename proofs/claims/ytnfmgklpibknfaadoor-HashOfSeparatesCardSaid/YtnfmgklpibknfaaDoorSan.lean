/-
  sanity answers true. Conditions: the tables read as the program lays them.
-/
import Derived.Test.YtnfmgklpibknfaaDoorOf
import Derived.Lib.SlBytesConst
namespace Go.Proofs.YtnfmgklpibknfaaDoor
set_option linter.unusedSimpArgs false
set_option linter.unusedVariables false
open Go.RowKit Sha Crc

def abcL : List UInt8 := [186, 120, 22, 191, 143, 1, 207, 234, 65, 65, 64, 222, 93, 174, 34, 35, 176, 3, 97, 163, 150, 23, 122, 156, 180, 16, 255, 97, 242, 0, 21, 173]
def oneL : List UInt8 := [75, 245, 18, 47, 52, 69, 84, 197, 59, 222, 46, 187, 140, 210, 183, 227]
theorem sha_abc : sha [97, 98, 99] = abcL := by decide +kernel
theorem sha_one : dig16 (inputL 1 []) = oneL := by decide +kernel
theorem hex_abc : (hexL abcL).toArray = #[98, 97, 55, 56, 49, 54, 98, 102, 56, 102, 48, 49, 99, 102, 101, 97, 52, 49, 52, 49, 52, 48, 100, 101, 53, 100, 97, 101, 50, 50, 50, 51, 98, 48, 48, 51, 54, 49, 97, 51, 57, 54, 49, 55, 55, 97, 57, 99, 98, 52, 49, 48, 102, 102, 54, 49, 102, 50, 48, 48, 49, 53, 97, 100] := by decide +kernel
theorem hex_one : (hexL oneL).toArray = #[52, 98, 102, 53, 49, 50, 50, 102, 51, 52, 52, 53, 53, 52, 99, 53, 51, 98, 100, 101, 50, 101, 98, 98, 56, 99, 100, 50, 98, 55, 101, 51] := by decide +kernel
theorem crc_254 : (check [254]).toNat = 75628790 := by decide +kernel
theorem crc_ff : (crcR (crcR ones [255]) [255] ^^^ ones).toNat = 65535 := by decide +kernel
theorem crc_words : (check (bytesOf [1099511627774])).toNat = 1099435999222 := by decide +kernel
theorem jn_1 : (jn 255 255 (1 : Int).toNat).toNat = 65535 := by decide +kernel
theorem jn_2 : (jn 255 0 (1 : Int).toNat).toNat = 65280 := by decide +kernel
theorem jn_3 : (jn 7 9 (0 : Int).toNat).toNat = 14 := by decide +kernel
theorem eql_abc (W : World) : (binOp .eql 47 (.agg (bv abcL).toArray) (.agg (bv abcL).toArray)).run Tryd.prog W = .ok (.bool true) W := by kernel_rfl
/-- The row that a literal makes. -/
theorem Rd.lit (w : World) (xs : List Value) (t : TypeId) : Rd (w.alloc (.cells xs.toArray t)) (some ⟨w.heap.size, 0, none⟩) xs.length xs := by
  refine ⟨rfl, fun k x hk => ⟨_, rfl, ?_⟩⟩
  have hadd : (⟨w.heap.size, 0, none⟩ : Addr).add k = ⟨w.heap.size, k, none⟩ := by unfold Addr.add; split <;> simp_all
  rw [hadd, (Blk.new w t xs.toArray).cell, List.getElem?_toArray, hk]
/-- The same, where the row bears a mark. -/
theorem Rd.litM (w : World) (xs : List Value) (t : TypeId) (a b : Nat) : Rd (w.alloc (.cells xs.toArray t (a, b))) (some ⟨w.heap.size, 0, none⟩) xs.length xs := by
  refine ⟨rfl, fun k x hk => ⟨_, rfl, ?_⟩⟩
  have hadd : (⟨w.heap.size, 0, none⟩ : Addr).add k = ⟨w.heap.size, k, none⟩ := by unfold Addr.add; split <;> simp_all
  rw [hadd, World.cell?_alloc_mark, List.getElem?_toArray, hk]
set_option maxHeartbeats 4000000 in
set_option maxRecDepth 100000 in
theorem sanity_any (w : World) (hn : GNib w) (hg : GCon w) : Calls Tryd.prog 15 #[] w fun e w' => e = .returned (.bool true) ∧ Below w.heap.size w w' := by
  have hz := zero_S
  have hz16 := zero_16
  have hz32 := zero_32
  have kc := fun (w : World) (C : Array Value) (n c : Nat) => Lib.run_convert_bytes_const (P := Tryd.prog) w 22 5 C n c (by kernel_rfl) (by kernel_rfl)
  go_enter Tryd.func15, Tryd.ntmps15
  go_wp2_with fail
  refine (sum_any (some ⟨w.heap.size, 0, none⟩) 3 3 [97, 98, 99] _ (by simp) (Rd.litM w (bv [97, 98, 99]) 5 3 4) (hg.below ((Below.refl _ _).alloc (Nat.le_refl _) _))).mono ?_
  rintro e w1 ⟨he, hb1⟩
  rw [sha_abc] at he
  subst he
  replace hb1 : Below w.heap.size w w1 := ((Below.refl _ _).alloc (Nat.le_refl _) _).trans (hb1.mono (by simp))
  have hsz : (bv abcL).toArray.size = 32 := rfl
  have hone : (bv abcL).toArray.all (·.oneCell') = true := all_bv _
  have hR0 := size_row32 [] (by simp)
  dsimp only
  go_step
  refine wpList_newRow rfl rfl rfl rfl (zero_32 _) (fun _ => rfl) (fun _ => rfl) (by rw [hsz, hR0]) (by rw [hsz]; kernel_rfl) hone ?_
  intro w2 g1 hg1 hB1 hb2 hlt1
  replace hg1 : w.heap.size ≤ g1 := by rw [hg1]; exact hb1.size
  replace hb1 := hb1.trans (hb2.mono hb1.size)
  clear hb2
  simp only [Act.put]
  go_wp2_with fail
  refine (begin_of _).mono ?_
  rintro e w3 ⟨rfl, hb2⟩
  go_wp2_with fail
  refine (add_any [] (List.replicate 64 0) ⟨#[97]⟩ _ (Tail.nil _ (by simp)) (by show 0 + 1 ≤ _; omega) (hg.below (hb1.trans (hb2.mono hb1.size)))).mono ?_
  rintro e w4 ⟨b1, he, hT1, hb3⟩
  replace he : e = .returned (.agg (strmOf [97] b1)) := he
  replace hT1 : Tail [97] b1 := hT1
  subst he
  replace hb2 := hb2.trans (hb3.mono hb2.size)
  clear hb3
  go_wp2_with fail
  refine (add_any [97] b1 ⟨#[98, 99]⟩ _ hT1 (by show 1 + 2 ≤ _; omega) (hg.below (hb1.trans (hb2.mono hb1.size)))).mono ?_
  rintro e w5 ⟨b2, he, hT2, hb3⟩
  replace he : e = .returned (.agg (strmOf [97, 98, 99] b2)) := he
  replace hT2 : Tail [97, 98, 99] b2 := hT2
  subst he
  replace hb2 := hb2.trans (hb3.mono hb2.size)
  clear hb3
  go_wp2_with fail
  refine (ssum_any [97, 98, 99] b2 _ hT2 (by simp) (hg.below (hb1.trans (hb2.mono hb1.size)))).mono ?_
  rintro e w6 ⟨he, hb3⟩
  rw [sha_abc] at he
  subst he
  replace hb2 := hb2.trans (hb3.mono hb2.size)
  clear hb3 hT1 hT2
  have hsz : (bv abcL).toArray.size = 32 := rfl
  have hone : (bv abcL).toArray.all (·.oneCell') = true := all_bv _
  have hR0 := size_row32 [] (by simp)
  dsimp only
  go_step
  refine wpList_newRow rfl rfl rfl rfl (zero_32 _) (fun _ => rfl) (fun _ => rfl) (by rw [hsz, hR0]) (by rw [hsz]; kernel_rfl) hone ?_
  intro w7 g2 hg2 hB2 hb3 hlt2
  replace hg2 : g1 < g2 := by rw [hg2]; have := hb2.size; omega
  replace hb2 := hb2.trans (hb3.mono hb2.size)
  replace hB1 := hB1.below hb2
  replace hb1 := hb1.trans (hb2.mono hb1.size)
  clear hb2 hb3 hsz hone hR0
  simp only [Act.put]
  go_wp2_with fail
  refine (of_any 1 none 0 0 [] _ (by omega) (by simp) (Rd.none_ _) (hg.below hb1)).mono ?_
  rintro e w8 ⟨he, hb2⟩
  rw [sha_one] at he
  subst he
  have hsz : (bv oneL).toArray.size = 16 := rfl
  have hone : (bv oneL).toArray.all (·.oneCell') = true := all_bv _
  dsimp only
  go_step
  refine wpList_newRow rfl rfl rfl rfl (zero_16 _) (fun _ => rfl) (fun _ => rfl) (by rw [hsz]; rfl) (by rw [hsz]; kernel_rfl) hone ?_
  intro w9 g3 hg3 hB3 hb3 hlt3
  replace hg3 : g2 < g3 := by rw [hg3]; have := hb2.size; omega
  replace hb2 := hb2.trans (hb3.mono hb2.size)
  replace hB1 := hB1.below hb2
  replace hB2 := hB2.below hb2
  replace hb1 := hb1.trans (hb2.mono hb1.size)
  clear hb2 hb3 hsz hone
  simp only [Act.put]
  go_wp2_with fail
  refine (crc40_any _ 1 1 [254] _ (by simp [maxLen]) (Rd.lit w9 (bv [254]) 5) (hn.below (hb1.alloc hb1.size _))).mono ?_
  rintro e wx ⟨he, hb2⟩
  rw [crc_254] at he
  subst he
  replace hb2 : Below w9.heap.size w9 wx := ((Below.refl _ _).alloc (Nat.le_refl _) _).trans (hb2.mono (by simp))
  replace hB1 := hB1.below hb2
  replace hB2 := hB2.below hb2
  replace hB3 := hB3.below hb2
  replace hb1 := hb1.trans (hb2.mono hb1.size)
  clear hb2
  go_wp2_with fail
  refine (beginCrc_any _).mono ?_
  rintro e wy ⟨rfl, hb2⟩
  go_wp2_with fail
  refine (crcAdd_any ones ⟨#[255]⟩ _ (by show 1 ≤ _; simp [maxLen]) (hn.below (hb1.trans (hb2.mono hb1.size)))).mono ?_
  rintro e wz ⟨he, hb3⟩
  replace he : e = .returned (.agg #[.int .u64 ((crcR ones [255]).toNat : Nat)]) := he
  subst he
  replace hb2 := hb2.trans (hb3.mono hb2.size)
  clear hb3
  go_wp2_with fail
  refine (crcAdd_any (crcR ones [255]) ⟨#[255]⟩ _ (by show 1 ≤ _; simp [maxLen]) (hn.below (hb1.trans (hb2.mono hb1.size)))).mono ?_
  rintro e wu ⟨he, hb3⟩
  replace he : e = .returned (.agg #[.int .u64 ((crcR (crcR ones [255]) [255]).toNat : Nat)]) := he
  subst he
  replace hb2 := hb2.trans (hb3.mono hb2.size)
  clear hb3
  go_wp2_with fail
  refine (crcValue_any (crcR (crcR ones [255]) [255]) _).mono ?_
  rintro e wv ⟨he, hb3⟩
  rw [crc_ff] at he
  subst he
  replace hb2 := hb2.trans (hb3.mono hb2.size)
  replace hB1 := hB1.below hb2
  replace hB2 := hB2.below hb2
  replace hB3 := hB3.below hb2
  replace hb1 := hb1.trans (hb2.mono hb1.size)
  clear hb2 hb3
  go_wp2_with fail
  refine (words_any _ 1 1 [1099511627774] _ (by omega) (Rd.lit wv (iv [1099511627774]) 3) (hn.below (hb1.alloc hb1.size _))).mono ?_
  rintro e w10 ⟨he, hb2⟩
  rw [crc_words] at he
  subst he
  replace hb2 : Below wv.heap.size wv w10 := ((Below.refl _ _).alloc (Nat.le_refl _) _).trans (hb2.mono (by simp))
  replace hB1 := hB1.below hb2
  replace hB2 := hB2.below hb2
  replace hB3 := hB3.below hb2
  replace hb1 := hb1.trans (hb2.mono hb1.size)
  clear hb2
  go_wp2_with fail
  refine (join_any 255 255 1 _ (by omega) (by omega) (hn.below hb1)).mono ?_
  rintro e w' ⟨he, rfl⟩
  rw [jn_1] at he
  subst he
  go_wp2_with fail
  refine (join_any 255 0 1 _ (by omega) (by omega) (hn.below hb1)).mono ?_
  rintro e w' ⟨he, rfl⟩
  rw [jn_2] at he
  subst he
  go_wp2_with fail
  refine (join_any 7 9 0 _ (by omega) (by omega) (hn.below hb1)).mono ?_
  rintro e w' ⟨he, rfl⟩
  rw [jn_3] at he
  subst he
  go_wp2_with fail
  refine (join_neg 1 1 (-1) _ (by omega)).mono ?_
  rintro e w' ⟨rfl, rfl⟩
  go_upto_region 8 with (fail)
  clear kc hz hz16 hz32 hg hn
  have hsz : (bv abcL).toArray.size = 32 := rfl
  have hsz1 : (bv oneL).toArray.size = 16 := rfl
  have heq := eql_abc
  refine wp_region_lit ?_
  refine wpList_loadRow rfl rfl rfl hB1 (by kernel_rfl) (by rw [hsz]; kernel_rfl) ?_
  go_step
  go_step
  refine (bytes32_any abcL _ rfl).mono ?_
  rintro e w11 ⟨rfl, hb2⟩
  dsimp only
  go_step
  go_step
  go_step
  refine (hex_any ⟨abcL.toArray⟩ _ (by show 32 ≤ _; omega)).mono ?_
  rintro e w12 ⟨he, hb3⟩
  replace he : e = .returned (.string ⟨(hexL abcL).toArray⟩) := he
  rw [hex_abc] at he
  subst he
  replace hb2 := hb2.trans (hb3.mono hb2.size)
  replace hB1 := hB1.below hb2
  replace hB2 := hB2.below hb2
  replace hB3 := hB3.below hb2
  replace hb1 := hb1.trans (hb2.mono hb1.size)
  clear hb2 hb3
  dsimp only
  iterate 7 go_step
  refine wpList_step fun K1 hK1 => ?_
  rw [if_pos (by rfl)]
  refine wp_loadRow rfl rfl hB1 (by kernel_rfl) (by rw [hsz]; kernel_rfl) ?_
  refine hK1 _ _ ?_
  clear hK1 K1
  simp only [Act.put]
  refine wpList_step fun K1 hK1 => ?_
  rw [if_pos (by rfl)]
  refine wp_loadRow rfl rfl hB2 (by kernel_rfl) (by rw [hsz]; kernel_rfl) ?_
  refine hK1 _ _ ?_
  clear hK1 K1
  simp only [Act.put]
  iterate 8 go_step
  refine wpList_step fun K1 hK1 => ?_
  rw [if_pos (by rfl)]
  refine wp_loadRow rfl rfl hB3 (by kernel_rfl) (by rw [hsz1]; kernel_rfl) ?_
  refine hK1 _ _ ?_
  clear hK1 K1 heq hB1 hB2 hB3
  simp only [Act.put]
  repeat go_step
  refine (text_any oneL _ rfl).mono ?_
  rintro e w13 ⟨rfl, hb2⟩
  dsimp only
  repeat go_step
  refine (hex_any ⟨oneL.toArray⟩ _ (by show 16 ≤ _; omega)).mono ?_
  rintro e w14 ⟨he, hb3⟩
  replace he : e = .returned (.string ⟨(hexL oneL).toArray⟩) := he
  rw [hex_one] at he
  subst he
  replace hb2 := hb2.trans (hb3.mono hb2.size)
  replace hb1 := hb1.trans (hb2.mono hb1.size)
  clear hb2 hb3
  dsimp only
  go_wp2
  go_ret
  exact ⟨rfl, hb1⟩
end Go.Proofs.YtnfmgklpibknfaaDoor
