/-
  Acknowledge in the program. Conditions: none.
-/
import Derived.Test.YtecklplohgfohaaFo
namespace Go.Proofs.Ytecklplohgfohaa
set_option linter.unusedSimpArgs false
set_option linter.unusedVariables false
open Go.RowKit Link
set_option maxRecDepth 20000 in
set_option maxHeartbeats 4000000 in
theorem ack_any (o : Ob) (A : Option Addr) (n c : Nat) (u : Int) (w : World) (hr : RdO w o A n c) (ho : WfO o) :
    Calls Try.prog 13 #[obV o A n c, .int .i64 u] w (OutIs A (ackO o u).1 (ackO o u).2 w) := by
  have HV := Lib.hid (fun W (h : RdO W o A n c) => validOut_any o A n c W (Nat.le_trans h.nc h.cm) h.len h.rd ho)
  have HE := Lib.hid (fun W => end_any o A n c W)
  have HVT : Hid (validOut o = true → _) := Lib.hid (fun h => validOut_facts h)
  have HR := Lib.hid hr
  have HL := Lib.hid hr.len
  clear ho hr
  unfold ackO
  generalize validOut o = V at *
  obtain ⟨wa, hwa, hb0, q0, q1⟩ := obBox2 w o A n c
  have HWA := Lib.hid hwa
  clear hwa
  have HRa := Lib.hid (HR.out.below hb0)
  cases V
  · simp only [Bool.false_and, Bool.false_eq_true, if_false]
    go_enter Try.func13, Try.ntmps13
    go_upto_region 1 with (fail)
    change Code.wp _ _ _ _ ((w.alloc (.cells (obC o A n c) 24)).alloc (.cells (obC oz none 0 0) 24))
    rw [← HWA.out]
    go_wp2_with (refine wpList_loadOb rfl rfl rfl q0 ?_)
    refine (HV.out _ HRa.out).mono ?_
    rintro e w1 ⟨rfl, hb⟩
    replace q0 := q0.below hb
    replace q1 := q1.below hb
    replace hb0 := bstep hb0 hb
    clear hb
    obtain ⟨c0, c1, c2, c3⟩ := q0.ob
    clear c0 c1 c2 c3
    go_wp2_with (first
      | (refine wpList_loadOb rfl rfl rfl q0 ?_)
      | (refine wpList_putOb (k := oz) rfl rfl rfl rfl q1 ?_; intro w9 ht9 q9))
    exact ret_blk2 rfl rfl rfl q9 aggOb sizeOb ⟨_, _, _, rfl, RdO.zero _, hb0.trans (ht9.below _ (by omega)), by first | exact KA.none _ _ | exact KA.refl _ _⟩
  obtain ⟨⟨hB0, hB4⟩, ⟨hA0, hA1, hA2⟩, hQ⟩ := HVT.out rfl
  rw [HL.out] at hQ
  clear HVT
  have hw : wrap64 (o.base + n) = o.fin := by have := HL.out; unfold wrap64 Ob.fin; omega
  rw [hw] at HE
  have HF : Hid (o.fin = o.base + n) := Lib.hid (by have := HL.out; unfold Ob.fin; omega)
  clear hw
  simp only [Bool.true_and]
  have HW := Lib.hid (fun W => within_any u o.fin W)
  have HWT : Hid ((decide (0 ≤ u) && decide (u ≤ o.fin)) = true → 0 ≤ u ∧ u ≤ o.fin) := Lib.hid (fun h => by simpa [Bool.and_eq_true] using h)
  generalize (decide (0 ≤ u) && decide (u ≤ o.fin)) = b2 at *
  cases b2
  · simp only [Bool.false_eq_true, if_false]
    generalize o.fin = F at *
    clear hB0 hB4 hQ HF hA0 hA1 hA2 HWT
    go_enter Try.func13, Try.ntmps13
    go_upto_region 1 with (fail)
    change Code.wp _ _ _ _ ((w.alloc (.cells (obC o A n c) 24)).alloc (.cells (obC oz none 0 0) 24))
    rw [← HWA.out]
    go_wp2_with (refine wpList_loadOb rfl rfl rfl q0 ?_)
    refine (HV.out _ HRa.out).mono ?_
    rintro e w1 ⟨rfl, hb⟩
    replace q0 := q0.below hb
    replace q1 := q1.below hb
    replace hb0 := bstep hb0 hb
    clear hb
    obtain ⟨c0, c1, c2, c3⟩ := q0.ob
    go_wp2_with (refine wpList_loadOb rfl rfl rfl q0 ?_)
    refine (HE.out _).mono ?_
    rintro e w2 ⟨rfl, hb⟩
    replace q0 := q0.below hb
    replace q1 := q1.below hb
    replace hb0 := bstep hb0 hb
    clear hb
    obtain ⟨c0, c1, c2, c3⟩ := q0.ob
    go_wp2_with fail
    refine (HW.out _).mono ?_
    rintro e w3 ⟨rfl, hb⟩
    replace q0 := q0.below hb
    replace q1 := q1.below hb
    replace hb0 := bstep hb0 hb
    clear hb
    obtain ⟨c0, c1, c2, c3⟩ := q0.ob
    clear c0 c1 c2 c3
    go_wp2_with (first
      | (refine wpList_loadOb rfl rfl rfl q0 ?_)
      | (refine wpList_putOb (k := oz) rfl rfl rfl rfl q1 ?_; intro w9 ht9 q9))
    exact ret_blk2 rfl rfl rfl q9 aggOb sizeOb ⟨_, _, _, rfl, RdO.zero _, hb0.trans (ht9.below _ (by omega)), by first | exact KA.none _ _ | exact KA.refl _ _⟩
  obtain ⟨hu0, huF⟩ := HWT.out rfl
  clear HWT
  simp only [if_true]
  by_cases h1 : u ≤ o.acked
  · rw [if_pos h1]
    have d1 : decide (u ≤ o.acked) = true := by simpa using h1
    generalize o.fin = F at *
    clear hB0 hB4 hQ HF hA0 hA1 hA2 h1 hu0 huF
    go_enter Try.func13, Try.ntmps13
    go_upto_region 1 with (fail)
    change Code.wp _ _ _ _ ((w.alloc (.cells (obC o A n c) 24)).alloc (.cells (obC oz none 0 0) 24))
    rw [← HWA.out]
    go_wp2_with (refine wpList_loadOb rfl rfl rfl q0 ?_)
    refine (HV.out _ HRa.out).mono ?_
    rintro e w1 ⟨rfl, hb⟩
    replace q0 := q0.below hb
    replace q1 := q1.below hb
    replace hb0 := bstep hb0 hb
    clear hb
    obtain ⟨c0, c1, c2, c3⟩ := q0.ob
    go_wp2_with (refine wpList_loadOb rfl rfl rfl q0 ?_)
    refine (HE.out _).mono ?_
    rintro e w2 ⟨rfl, hb⟩
    replace q0 := q0.below hb
    replace q1 := q1.below hb
    replace hb0 := bstep hb0 hb
    clear hb
    obtain ⟨c0, c1, c2, c3⟩ := q0.ob
    go_wp2_with fail
    refine (HW.out _).mono ?_
    rintro e w3 ⟨rfl, hb⟩
    replace q0 := q0.below hb
    replace q1 := q1.below hb
    replace hb0 := bstep hb0 hb
    clear hb
    obtain ⟨c0, c1, c2, c3⟩ := q0.ob
    clear c0 c2 c3
    go_wp2_with (first
      | (refine wpList_loadOb rfl rfl rfl q0 ?_)
      | (refine wpList_putOb (k := o) rfl rfl rfl rfl q1 ?_; intro w9 ht9 q9))
    exact ret_blk2 rfl rfl rfl q9 aggOb sizeOb ⟨_, _, _, rfl, HR.out.below (hb0.trans (ht9.below _ (by omega))), hb0.trans (ht9.below _ (by omega)), by first | exact KA.none _ _ | exact KA.refl _ _⟩
  rw [if_neg h1]
  have d1 : decide (u ≤ o.acked) = false := by simpa using h1
  by_cases h2 : u ≤ o.base
  · rw [if_pos h2]
    have d2 : decide (o.base < u) = false := by simp; omega
    generalize o.fin = F at *
    clear hB0 hB4 hQ HF hA0 hA1 hA2 h1 hu0 huF h2
    go_enter Try.func13, Try.ntmps13
    go_upto_region 1 with (fail)
    change Code.wp _ _ _ _ ((w.alloc (.cells (obC o A n c) 24)).alloc (.cells (obC oz none 0 0) 24))
    rw [← HWA.out]
    go_wp2_with (refine wpList_loadOb rfl rfl rfl q0 ?_)
    refine (HV.out _ HRa.out).mono ?_
    rintro e w1 ⟨rfl, hb⟩
    replace q0 := q0.below hb
    replace q1 := q1.below hb
    replace hb0 := bstep hb0 hb
    clear hb
    obtain ⟨c0, c1, c2, c3⟩ := q0.ob
    go_wp2_with (refine wpList_loadOb rfl rfl rfl q0 ?_)
    refine (HE.out _).mono ?_
    rintro e w2 ⟨rfl, hb⟩
    replace q0 := q0.below hb
    replace q1 := q1.below hb
    replace hb0 := bstep hb0 hb
    clear hb
    obtain ⟨c0, c1, c2, c3⟩ := q0.ob
    go_wp2_with fail
    refine (HW.out _).mono ?_
    rintro e w3 ⟨rfl, hb⟩
    replace q0 := q0.below hb
    replace q1 := q1.below hb
    replace hb0 := bstep hb0 hb
    clear hb
    obtain ⟨c0, c1, c2, c3⟩ := q0.ob
    clear c2 c3
    go_wp2_with (first
      | (refine wpList_set rfl rfl (by kernel_rfl) rfl rfl rfl q0 (cs' := obC { o with acked := u } A n c) (by simp) rfl ?_; intro w5 ht5 q5; have q15 := ht5.blk q1 (by omega); obtain ⟨e0, -, -, -⟩ := q5.ob; clear c0 c1)
      | (refine wpList_loadOb rfl rfl rfl q5 ?_)
      | (refine wpList_putOb (k := { o with acked := u }) rfl rfl rfl rfl q15 ?_; intro w9 ht9 q9))
    have HB9 : Below w.heap.size w w9 := (hb0.trans (ht5.below _ (Nat.le_refl _))).trans (ht9.below _ (by omega))
    have hr9 := HR.out.below HB9
    exact ret_blk2 rfl rfl rfl q9 aggOb sizeOb ⟨_, _, _, rfl, ⟨hr9.nc, hr9.cm, hr9.len, hr9.rd⟩, HB9, KA.refl _ _⟩
  rw [if_neg h2]
  have d2 : decide (o.base < u) = true := by simp; omega
  obtain ⟨k, hk⟩ : ∃ k : Nat, u = o.base + k := ⟨(u - o.base).toNat, by omega⟩
  have hkn : k ≤ n := by have := HF.out; omega
  have hd : (u - o.base).toNat = k := by omega
  rw [hd]
  have hwk : wrap64 (u - o.base) = (k : Int) := by unfold wrap64; omega
  have hmc : n ≤ c := HR.out.nc
  have hcm : c ≤ 9223372036854775807 := HR.out.cm
  generalize o.fin = F at *
  clear hd hk hB0 hB4 HF hA0 hA1 hA2 h1 hu0 huF h2
  go_enter Try.func13, Try.ntmps13
  go_upto_region 1 with (fail)
  change Code.wp _ _ _ _ ((w.alloc (.cells (obC o A n c) 24)).alloc (.cells (obC oz none 0 0) 24))
  rw [← HWA.out]
  go_wp2_with (refine wpList_loadOb rfl rfl rfl q0 ?_)
  refine (HV.out _ HRa.out).mono ?_
  rintro e w1 ⟨rfl, hb⟩
  replace q0 := q0.below hb
  replace q1 := q1.below hb
  replace hb0 := bstep hb0 hb
  clear hb
  obtain ⟨c0, c1, c2, c3⟩ := q0.ob
  go_wp2_with (refine wpList_loadOb rfl rfl rfl q0 ?_)
  refine (HE.out _).mono ?_
  rintro e w2 ⟨rfl, hb⟩
  replace q0 := q0.below hb
  replace q1 := q1.below hb
  replace hb0 := bstep hb0 hb
  clear hb
  obtain ⟨c0, c1, c2, c3⟩ := q0.ob
  go_wp2_with fail
  refine (HW.out _).mono ?_
  rintro e w3 ⟨rfl, hb⟩
  replace q0 := q0.below hb
  replace q1 := q1.below hb
  replace hb0 := bstep hb0 hb
  clear hb
  obtain ⟨c0, c1, c2, c3⟩ := q0.ob
  go_wp2_with (first
    | (refine wpList_set rfl rfl (by kernel_rfl) rfl rfl rfl q0 (cs' := obC { o with acked := u } A n c) (by simp) rfl ?_; intro w5 ht5 q5; have q15 := ht5.blk q1 (by omega); clear q0 q1; clear c0 c1 c2 c3; obtain ⟨e0, -, -, e3⟩ := q5.ob)
    | (refine wpList_set rfl rfl (by kernel_rfl) rfl rfl rfl q5 (cs' := obC ⟨o.base, u, o.summary, o.queue.drop k⟩ (if c = k then A else A.map (·.add k)) (n - k) (c - k)) (by simp) rfl ?_; intro w6 ht6 q6; have q16 := ht6.blk q15 (by omega); clear q5 q15 e0 e3)
    | (refine wpList_set rfl rfl (by kernel_rfl) rfl rfl rfl q6 (cs' := obC ⟨u, u, o.summary, o.queue.drop k⟩ (if c = k then A else A.map (·.add k)) (n - k) (c - k)) (by simp) rfl ?_; intro w7 ht7 q7; have q17 := ht7.blk q16 (by omega); clear q6 q16)
    | (refine wpList_set rfl rfl (by kernel_rfl) rfl rfl rfl q7 (cs' := obC ⟨u, u, ⟨#[]⟩, o.queue.drop k⟩ (if c = k then A else A.map (·.add k)) (n - k) (c - k)) (by simp) rfl ?_; intro w8 ht8 q8; have q18 := ht8.blk q17 (by omega); clear q7 q17)
    | (refine wpList_loadOb rfl rfl rfl q8 ?_)
    | (refine wpList_putOb (k := ⟨u, u, ⟨#[]⟩, o.queue.drop k⟩) rfl rfl rfl rfl q18 ?_; intro w9 ht9 q9))
  all_goals
    have HB9 : Below w.heap.size w w9 := ((((hb0.trans (ht5.below _ (Nat.le_refl _))).trans (ht6.below _ (Nat.le_refl _))).trans (ht7.below _ (Nat.le_refl _))).trans (ht8.below _ (Nat.le_refl _))).trans (ht9.below _ (by omega))
    exact ret_blk2 rfl rfl rfl q9 aggOb sizeOb ⟨_, _, _, rfl, RdO.cut (o := o) (HR.out.below HB9) hkn rfl, HB9, KA.cut _ _ _ _⟩
end Go.Proofs.Ytecklplohgfohaa
