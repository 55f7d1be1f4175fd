/-
  The walk of HashCrcLinear. Conditions: the tables read as the program lays them.
-/
import Derived.Test.YtnfmgklpibknfaaDoorXor
namespace Go.Proofs.YtnfmgklpibknfaaDoor
set_option linter.unusedSimpArgs false
set_option linter.unusedVariables false
open Go.RowKit Sha Crc
set_option maxHeartbeats 2000000 in
theorem walkHashCrcLinear (A0 : Option Addr) (n0 c0 : Nat) (l0 : List UInt8) (A1 : Option Addr) (n1 c1 : Nat) (l1 : List UInt8) (A2 : Option Addr) (n2 c2 : Nat) (l2 : List UInt8) (w : World)
    (_x0 : n0 ≤ c0) (y0 : c0 ≤ maxLen) (z0 : l0.length = n0) (r0 : Rd w A0 n0 (bv l0)) (_x1 : n1 ≤ c1) (y1 : c1 ≤ maxLen) (_z1 : l1.length = n1) (r1 : Rd w A1 n1 (bv l1)) (_x2 : n2 ≤ c2) (y2 : c2 ≤ maxLen) (_z2 : l2.length = n2) (r2 : Rd w A2 n2 (bv l2))
    (hN : GNib w) (hC : GCon w) :
    Calls Tryd.prog 9 #[.slice A0 n0 c0, .slice A1 n1 c1, .slice A2 n2 c2] w fun e w' => e = .returned (.bool true) ∧ Below w.heap.size w w' := by
  have Z0 := Lib.hid z0
  clear z0 _z1 _z2
  unfold maxLen at y0 y1 y2
  by_cases h0 : 400 < n0
  · go_enter Tryd.func9, Tryd.ntmps9
    go_wp2_with fail
    refine (sanity_any w hN hC).mono ?_
    rintro e w1 ⟨rfl, hb1⟩
    go_wp2
    go_ret
    exact ⟨rfl, hb1⟩
  · have hmk := fun W => make_bytes n0 W (by omega)
    go_enter Tryd.func9, Tryd.ntmps9
    go_wp2_with fail
    refine (sanity_any w hN hC).mono ?_
    rintro e w1 ⟨rfl, hb⟩
    go_wp2_with fail
    clear hmk
    have rz := Rd.lit w1 (bv (List.replicate n0 0)) 5
    rw [length_bv, List.length_replicate] at rz
    replace hb := hb.alloc hb.size (.cells (bv (List.replicate n0 0)).toArray 5)
    generalize w1.heap.size = g1 at *
    generalize w1.alloc (.cells (bv (List.replicate n0 0)).toArray 5) = w2 at *
    have HY := Lib.hid (length_xorL (List.replicate n0 0) l1)
    have HZ := Lib.hid (length_xorL (List.replicate n0 0) l2)
    have HC3 := Lib.hid (check_xor3 l0 (xorL (List.replicate n0 0) l1) (xorL (List.replicate n0 0) l2) (by rw [length_xorL, List.length_replicate, Z0.out]) (by rw [length_xorL, List.length_replicate, Z0.out]))
    refine (refXor_any (some ⟨g1, 0, none⟩) n0 n0 (List.replicate n0 0) A1 n1 c1 l1 _ (by omega) rz (by omega) (r1.below hb)).mono ?_
    rintro e w3 ⟨v3, rfl, o3, hb2⟩
    obtain ⟨A3, n3, c3, rfl, hn3, _, _, r3⟩ := o3.formN
    replace rz := rz.below hb2
    replace hb := hb.trans (hb2.mono hb.size)
    clear hb2 o3
    go_wp2_with fail
    refine (refXor_any (some ⟨g1, 0, none⟩) n0 n0 (List.replicate n0 0) A2 n2 c2 l2 _ (by omega) rz (by omega) (r2.below hb)).mono ?_
    rintro e w4 ⟨v4, rfl, o4, hb2⟩
    obtain ⟨A4, n4, c4, rfl, hn4, _, _, r4⟩ := o4.formN
    replace r3 := r3.below hb2
    replace hb := hb.trans (hb2.mono hb.size)
    clear hb2 o4 rz
    have hn3' : n3 = n0 := by rw [hn3.out, length_bv, HY.out, List.length_replicate]
    have hn4' : n4 = n0 := by rw [hn4.out, length_bv, HZ.out, List.length_replicate]
    subst hn3' hn4'
    clear hn3 hn4
    generalize xorL (List.replicate n4 0) l1 = y at *
    generalize xorL (List.replicate n4 0) l2 = z at *
    go_wp2_with fail
    refine (refXor_any A0 n4 c0 l0 A3 n4 c3 y _ (by omega) (r0.below hb) (by omega) r3).mono ?_
    rintro e w5 ⟨v5, rfl, o5, hb2⟩
    obtain ⟨A5, n5, c5, rfl, hn5, _, _, r5⟩ := o5.formN
    replace r3 := r3.below hb2
    replace r4 := r4.below hb2
    replace hb := hb.trans (hb2.mono hb.size)
    clear hb2 o5
    have hn5' : n5 = n4 := by rw [hn5.out, length_bv, length_xorL, Z0.out]
    subst hn5'
    clear hn5
    have HW := Lib.hid (show (xorL (xorL l0 y) z).length = n5 by rw [length_xorL, length_xorL, Z0.out])
    go_wp2_with fail
    refine (refXor_any A5 n5 c5 (xorL l0 y) A4 n5 c4 z _ (by omega) r5 (by omega) r4).mono ?_
    rintro e w6 ⟨v6, rfl, o6, hb2⟩
    obtain ⟨A6, n6, c6, rfl, hn6, _, _, r6⟩ := o6.formN
    replace r3 := r3.below hb2
    replace r4 := r4.below hb2
    replace hb := hb.trans (hb2.mono hb.size)
    clear hb2 o6 r5 hn6
    generalize xorL (xorL l0 y) z = all at *
    go_wp2_with fail
    refine (crc40_any A6 n6 c6 all _ (by rw [HW.out]; simp only [maxLen]; omega) r6 (hN.below hb)).mono ?_
    rintro e w7 ⟨rfl, hb2⟩
    replace r3 := r3.below hb2
    replace r4 := r4.below hb2
    replace hb := hb.trans (hb2.mono hb.size)
    clear hb2 r6
    go_wp2_with fail
    refine (crc40_any A0 n5 c0 l0 _ (by rw [Z0.out]; simp only [maxLen]; omega) (r0.below hb) (hN.below hb)).mono ?_
    rintro e w8 ⟨rfl, hb2⟩
    replace r3 := r3.below hb2
    replace r4 := r4.below hb2
    replace hb := hb.trans (hb2.mono hb.size)
    clear hb2
    have hyl := HY.out
    have hzl := HZ.out
    rw [List.length_replicate] at hyl hzl
    have HYL := Lib.hid hyl
    have HZL := Lib.hid hzl
    clear hyl hzl HY HZ
    go_wp2_with fail
    refine (crc40_any A3 n5 c3 y _ (by rw [HYL.out]; simp only [maxLen]; omega) r3 (hN.below hb)).mono ?_
    rintro e w9 ⟨rfl, hb2⟩
    replace r4 := r4.below hb2
    replace hb := hb.trans (hb2.mono hb.size)
    clear hb2 r3
    go_wp2_with fail
    refine (crc40_any A4 n5 c4 z _ (by rw [HZL.out]; simp only [maxLen]; omega) r4 (hN.below hb)).mono ?_
    rintro e w10 ⟨rfl, hb2⟩
    replace hb := hb.trans (hb2.mono hb.size)
    clear hb2 r4
    have h3 := HC3.out
    generalize check all = ca at *
    generalize check l0 = c0' at *
    generalize check y = cy at *
    generalize check z = cz at *
    obtain ⟨u, hu⟩ : ∃ u : BitVec 40, u = c0' ^^^ cy := ⟨_, rfl⟩
    have hx1 := i64_xor_chk c0' cy
    rw [← hu] at hx1 h3
    have hx2 := i64_xor_chk u cz
    rw [← h3] at hx2
    clear hu h3
    go_wp2
    go_ret
    exact ⟨rfl, hb⟩
end Go.Proofs.YtnfmgklpibknfaaDoor
