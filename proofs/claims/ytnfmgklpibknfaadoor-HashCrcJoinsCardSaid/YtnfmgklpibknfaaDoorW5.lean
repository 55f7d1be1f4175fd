/-
  The walk of HashCrcJoins. Conditions: the tables read as the program lays them.
-/
import Derived.Test.YtnfmgklpibknfaaDoorGrd
namespace Go.Proofs.YtnfmgklpibknfaaDoor
set_option linter.unusedSimpArgs false
set_option linter.unusedVariables false
open Go.RowKit Sha Crc
set_option maxHeartbeats 2000000 in
theorem walkHashCrcJoins (A0 : Option Addr) (n0 c0 : Nat) (l0 : List UInt8) (A1 : Option Addr) (n1 c1 : Nat) (l1 : List UInt8) (A2 : Option Addr) (n2 c2 : Nat) (l2 : List UInt8) (w : World)
    (_x0 : n0 ≤ c0) (y0 : c0 ≤ maxLen) (z0 : l0.length = n0) (r0 : Rd w A0 n0 (bv l0)) (_x1 : n1 ≤ c1) (y1 : c1 ≤ maxLen) (z1 : l1.length = n1) (r1 : Rd w A1 n1 (bv l1)) (_x2 : n2 ≤ c2) (y2 : c2 ≤ maxLen) (z2 : l2.length = n2) (r2 : Rd w A2 n2 (bv l2))
    (hN : GNib w) (hC : GCon w) :
    Calls Tryd.prog 7 #[.slice A0 n0 c0, .slice A1 n1 c1, .slice A2 n2 c2] w fun e w' => e = .returned (.bool true) ∧ Below w.heap.size w w' := by
  have Z0 := Lib.hid z0
  have Z1 := Lib.hid z1
  have Z2 := Lib.hid z2
  clear z0 z1 z2
  unfold maxLen at y0 y1 y2
  by_cases h0 : 400 < n0
  · go_enter Tryd.func7, Tryd.ntmps7
    go_wp2_with fail
    refine (sanity_any w hN hC).mono ?_
    rintro e w1 ⟨rfl, hb1⟩
    have d0 : decide ((400 : Int) < (n0 : Int)) = true := by simp; omega
    go_wp2
    go_ret
    exact ⟨rfl, hb1⟩
  by_cases h1 : 400 < n1
  · go_enter Tryd.func7, Tryd.ntmps7
    go_wp2_with fail
    refine (sanity_any w hN hC).mono ?_
    rintro e w1 ⟨rfl, hb1⟩
    have d0 : decide ((400 : Int) < (n0 : Int)) = false := by simp; omega
    have d1 : decide ((400 : Int) < (n1 : Int)) = true := by simp; omega
    go_wp2
    go_ret
    exact ⟨rfl, hb1⟩
  by_cases h2 : 400 < n2
  · go_enter Tryd.func7, Tryd.ntmps7
    go_wp2_with fail
    refine (sanity_any w hN hC).mono ?_
    rintro e w1 ⟨rfl, hb1⟩
    have d0 : decide ((400 : Int) < (n0 : Int)) = false := by simp; omega
    have d1 : decide ((400 : Int) < (n1 : Int)) = false := by simp; omega
    have d2 : decide ((400 : Int) < (n2 : Int)) = true := by simp; omega
    go_wp2
    go_ret
    exact ⟨rfl, hb1⟩
  go_enter Tryd.func7, Tryd.ntmps7
  go_wp2_with fail
  refine (sanity_any w hN hC).mono ?_
  rintro e w1 ⟨rfl, hb⟩
  have d0 : decide ((400 : Int) < (n0 : Int)) = false := by simp; omega
  have d1 : decide ((400 : Int) < (n1 : Int)) = false := by simp; omega
  have d2 : decide ((400 : Int) < (n2 : Int)) = false := by simp; omega
  go_upto_region 5 with (fail)
  refine wp_region_lit ?_
  go_step
  go_step
  go_step
  go_step
  go_step
  go_step
  refine wpList_app rfl rfl elemBytes rfl (Own.nil w1 w.heap.size 5) rfl (r0.below hb) (oneCell_bv _) (by simp; omega) hb.size ?_
  intro v1 w2 o1 _ hb2 _
  replace hb := hb.trans hb2
  clear hb2
  simp only [Act.put, List.nil_append] at o1 ⊢
  go_upto_region 6 with (fail)
  refine wp_region_lit ?_
  go_step
  go_step
  go_step
  go_step
  go_step
  go_step
  refine wpList_app rfl rfl elemBytes rfl o1 rfl (r1.below hb) (oneCell_bv _) (by rw [length_bv, Z0.out]; omega) hb.size ?_
  intro v2 w3 o2 _ hb2 _
  replace hb := hb.trans hb2
  clear hb2 o1
  rw [← bv_append] at o2
  simp only [Act.put]
  go_upto_region 7 with (fail)
  refine wp_region_lit ?_
  go_step
  go_step
  go_step
  go_step
  go_step
  go_step
  refine wpList_app rfl rfl elemBytes rfl o2 rfl (r2.below hb) (oneCell_bv _) (by rw [length_bv, List.length_append, Z0.out, Z1.out]; omega) hb.size ?_
  intro v3 w4 o3 _ hb2 _
  replace hb := hb.trans hb2
  clear hb2 o2
  rw [← bv_append] at o3
  obtain ⟨A4, n4, c4, rfl, hn4, _, _, r4⟩ := o3.formN
  simp only [Act.put]
  go_wp2_with fail
  refine (crc40_any A0 n0 c0 l0 _ (by rw [Z0.out]; simp only [maxLen]; omega) (r0.below hb) (hN.below hb)).mono ?_
  rintro e w5 ⟨rfl, hb2⟩
  replace r4 := r4.below hb2
  replace hb := hb.trans (hb2.mono hb.size)
  clear hb2 o3
  go_wp2_with fail
  refine (crc40_any A1 n1 c1 l1 _ (by rw [Z1.out]; simp only [maxLen]; omega) (r1.below hb) (hN.below hb)).mono ?_
  rintro e w6 ⟨rfl, hb2⟩
  replace r4 := r4.below hb2
  replace hb := hb.trans (hb2.mono hb.size)
  clear hb2
  go_wp2_with fail
  refine (crc40_any A2 n2 c2 l2 _ (by rw [Z2.out]; simp only [maxLen]; omega) (r2.below hb) (hN.below hb)).mono ?_
  rintro e w7 ⟨rfl, hb2⟩
  replace r4 := r4.below hb2
  replace hb := hb.trans (hb2.mono hb.size)
  clear hb2
  have HA := Lib.hid (show check (l0 ++ l1 ++ l2) = join (join (check l0) (check l1) n1) (check l2) n2 by rw [check_append, check_append, Z1.out, Z2.out])
  have HB := Lib.hid (join_assoc (check l0) (check l1) (check l2) n1 n2)
  have HN4 : Hid ((l0 ++ l1 ++ l2).length ≤ 1200) := by
    show (l0 ++ l1 ++ l2).length ≤ 1200
    rw [List.length_append, List.length_append, Z0.out, Z1.out, Z2.out]; omega
  generalize check l0 = x at *
  generalize check l1 = y at *
  generalize check l2 = z at *
  go_wp2_with fail
  refine (join_any (x.toNat : Nat) (y.toNat : Nat) n1 _ (by omega) (by omega) (hN.below hb)).mono ?_
  rintro e w' ⟨he, rfl⟩
  rw [Int.toNat_natCast, jn_join] at he
  subst he
  go_wp2_with fail
  refine (join_any ((join x y n1).toNat : Nat) (z.toNat : Nat) n2 _ (by omega) (by omega) (hN.below hb)).mono ?_
  rintro e w' ⟨he, rfl⟩
  rw [Int.toNat_natCast, jn_join] at he
  subst he
  go_wp2_with fail
  refine (join_any (y.toNat : Nat) (z.toNat : Nat) n2 _ (by omega) (by omega) (hN.below hb)).mono ?_
  rintro e w' ⟨he, rfl⟩
  rw [Int.toNat_natCast, jn_join] at he
  subst he
  go_wp2_with fail
  refine (join_any (x.toNat : Nat) ((join y z n2).toNat : Nat) ((n1 : Int) + (n2 : Int)) _ (by omega) (by omega) (hN.below hb)).mono ?_
  rintro e w' ⟨he, rfl⟩
  rw [show ((n1 : Int) + (n2 : Int)).toNat = n1 + n2 by omega, jn_join, ← HB.out] at he
  subst he
  go_wp2_with fail
  refine (crc40_any A4 n4 c4 (l0 ++ l1 ++ l2) _ (by have := HN4.out; simp only [maxLen]; omega) r4 (hN.below hb)).mono ?_
  rintro e w8 ⟨he, hb2⟩
  rw [HA.out] at he
  subst he
  replace hb := hb.trans (hb2.mono hb.size)
  clear hb2
  go_wp2
  go_ret
  exact ⟨rfl, hb⟩
end Go.Proofs.YtnfmgklpibknfaaDoor
