/-
  Fold in the program. Conditions: none.
-/
import Derived.Test.YtecklplohgfohaaLw
namespace Go.Proofs.Ytecklplohgfohaa
set_option linter.unusedSimpArgs false
set_option linter.unusedVariables false
open Go.RowKit Link
theorem validOut_facts {o : Ob} (h : validOut o = true) : (0 ≤ o.base ∧ o.base ≤ 1099511627776) ∧ (0 ≤ o.acked ∧ o.acked ≤ 1099511627776 ∧ o.acked ≤ o.fin) ∧ o.queue.length ≤ 1000 := by
  simp only [validOut, Bool.and_eq_true, decide_eq_true_eq] at h
  unfold Link.maxOut at h
  omega
/-- The queue from a place on. -/
theorem RdO.cut {W : World} {o o' : Ob} {A : Option Addr} {n c k : Nat} (h : RdO W o A n c) (hk : k ≤ n) (ho : o'.queue = o.queue.drop k) : RdO W o' (if c = k then A else A.map (·.add k)) (n - k) (c - k) := by
  refine ⟨by have := h.nc; omega, by have := h.cm; omega, by rw [ho, List.length_drop, h.len], ?_⟩
  have := h.rd.cut hk h.nc
  rw [ho]
  simpa [sv] using this
set_option maxRecDepth 20000 in
set_option maxHeartbeats 4000000 in
theorem fold_any (o : Ob) (A : Option Addr) (n c : Nat) (u : Int) (s : ByteArray) (w : World) (hr : RdO w o A n c) (ho : WfO o) (hs : s.size ≤ maxLen) :
    Calls Try.prog 11 #[obV o A n c, .int .i64 u, .string s] w (OutIs A (foldO o u s).1 (foldO o u s).2 w) := by
  have HV := Lib.hid (fun W (h : RdO W o A n c) => validOut_any o A n c W (Nat.le_trans h.nc h.cm) h.len h.rd ho)
  have HB := Lib.hid (fun W => isBody_any s W hs)
  have HE := Lib.hid (fun W => end_any o A n c W)
  have HVT : Hid (validOut o = true → _) := Lib.hid (fun h => validOut_facts h)
  have HR := Lib.hid hr
  have HL := Lib.hid hr.len
  clear ho hs hr
  unfold foldO
  generalize validOut o = V at *
  generalize short s = S at *
  obtain ⟨wa, hwa, hb0, q0, q1⟩ := obBox2 w o A n c
  have HWA := Lib.hid hwa
  clear hwa
  have HRa := Lib.hid (HR.out.below hb0)
  cases V
  · simp only [Bool.false_and, Bool.false_eq_true, if_false]
    go_enter Try.func11, Try.ntmps11
    go_upto_region 1 with (fail)
    change Code.wp _ _ _ _ ((w.alloc (.cells (obC o A n c) 24)).alloc (.cells (obC oz none 0 0) 24))
    rw [← HWA.out]
    go_wp2_with (refine wpList_loadOb rfl rfl rfl q0 ?_)
    refine (HV.out _ HRa.out).mono ?_
    rintro e w1 ⟨rfl, hb1⟩
    have q11 := q1.below hb1
    go_wp2_with (refine wpList_putOb (k := oz) rfl rfl rfl rfl q11 ?_; intro w3 ht3 hbk3)
    exact ret_blk2 rfl rfl rfl hbk3 aggOb sizeOb ⟨none, 0, 0, rfl, RdO.zero _, (bstep hb0 hb1).trans (ht3.below _ (by omega)), KA.none _ _⟩
  obtain ⟨⟨hB0, hB4⟩, -, hQ⟩ := HVT.out rfl
  rw [HL.out] at hQ
  clear HVT
  have hw : wrap64 (o.base + n) = o.fin := by have := HL.out; unfold wrap64 Ob.fin; omega
  rw [hw] at HE
  have HF : Hid (o.fin = o.base + n) := Lib.hid (by have := HL.out; unfold Ob.fin; omega)
  clear hw
  by_cases h1 : u < o.base
  · have d0 : decide (o.base ≤ u) = false := by simp; omega
    have d1 : decide (u < o.base) = true := by simp; omega
    simp only [d0, Bool.and_false, Bool.false_and, Bool.false_eq_true, if_false]
    clear d0 h1 hB0 hB4 hQ HF
    go_enter Try.func11, Try.ntmps11
    go_upto_region 1 with (fail)
    change Code.wp _ _ _ _ ((w.alloc (.cells (obC o A n c) 24)).alloc (.cells (obC oz none 0 0) 24))
    rw [← HWA.out]
    go_wp2_with (refine wpList_loadOb rfl rfl rfl q0 ?_)
    refine (HV.out _ HRa.out).mono ?_
    rintro e w1 ⟨rfl, hb1⟩
    have q11 := q1.below hb1
    obtain ⟨c0, -, -, -⟩ := (q0.below hb1).ob
    go_wp2_with (refine wpList_putOb (k := oz) rfl rfl rfl rfl q11 ?_; intro w3 ht3 hbk3)
    exact ret_blk2 rfl rfl rfl hbk3 aggOb sizeOb ⟨none, 0, 0, rfl, RdO.zero _, (bstep hb0 hb1).trans (ht3.below _ (by omega)), KA.none _ _⟩
  have d0 : decide (o.base ≤ u) = true := by simp; omega
  have d1 : decide (u < o.base) = false := by simp; omega
  simp only [d0, Bool.true_and]
  clear d0
  by_cases h2 : o.fin < u
  · have d0 : decide (u ≤ o.fin) = false := by simp; omega
    have d2 : decide (o.fin < u) = true := by simp; omega
    simp only [d0, Bool.and_false, Bool.false_and, Bool.false_eq_true, if_false]
    generalize o.fin = F at *
    clear d0 h1 h2 hB0 hB4 hQ HF
    go_enter Try.func11, Try.ntmps11
    go_upto_region 1 with (fail)
    change Code.wp _ _ _ _ ((w.alloc (.cells (obC o A n c) 24)).alloc (.cells (obC oz none 0 0) 24))
    rw [← HWA.out]
    go_wp2_with (refine wpList_loadOb rfl rfl rfl q0 ?_)
    refine (HV.out _ HRa.out).mono ?_
    rintro e w1 ⟨rfl, hb1⟩
    have q11 := q1.below hb1
    have q01 := q0.below hb1
    have HB1 := bstep hb0 hb1
    obtain ⟨c0, -, -, -⟩ := q01.ob
    go_wp2_with (refine wpList_loadRowW (by rfl) rfl rfl q01 aggOb sizeOb ?_)
    refine (HE.out _).mono ?_
    rintro e w2 ⟨rfl, hb2⟩
    have q12 := q11.below hb2
    go_wp2_with (refine wpList_putOb (k := oz) rfl rfl rfl rfl q12 ?_; intro w3 ht3 hbk3)
    exact ret_blk2 rfl rfl rfl hbk3 aggOb sizeOb ⟨none, 0, 0, rfl, RdO.zero _, (bstep HB1 hb2).trans (ht3.below _ (by omega)), KA.none _ _⟩
  have d0 : decide (u ≤ o.fin) = true := by simp; omega
  have d2 : decide (o.fin < u) = false := by simp; omega
  simp only [d0, Bool.true_and]
  obtain ⟨k, hk⟩ : ∃ k : Nat, u = o.base + k := ⟨(u - o.base).toNat, by omega⟩
  have hkn : k ≤ n := by have := HF.out; omega
  have hd : (u - o.base).toNat = k := by omega
  rw [hd]
  have HK := Lib.hid hk
  have hk0 : 0 ≤ u - o.base := by omega
  have HK2 : Hid (u - o.base = k) := Lib.hid (by omega)
  clear d0 hd hk
  generalize o.fin = F at *
  cases S
  · simp only [Bool.and_false, Bool.false_and, Bool.false_eq_true, if_false]
    clear h1 h2 hB0 hB4 hQ HF
    go_enter Try.func11, Try.ntmps11
    go_upto_region 1 with (fail)
    change Code.wp _ _ _ _ ((w.alloc (.cells (obC o A n c) 24)).alloc (.cells (obC oz none 0 0) 24))
    rw [← HWA.out]
    go_wp2_with (refine wpList_loadOb rfl rfl rfl q0 ?_)
    refine (HV.out _ HRa.out).mono ?_
    rintro e w1 ⟨rfl, hb1⟩
    have q11 := q1.below hb1
    have q01 := q0.below hb1
    have HB1 := bstep hb0 hb1
    obtain ⟨c0, -, -, -⟩ := q01.ob
    go_wp2_with (refine wpList_loadRowW (by rfl) rfl rfl q01 aggOb sizeOb ?_)
    refine (HE.out _).mono ?_
    rintro e w2 ⟨rfl, hb2⟩
    have q12 := q11.below hb2
    have HB2 := bstep HB1 hb2
    go_wp2_with fail
    refine (HB.out _).mono ?_
    rintro e w4 ⟨rfl, hb4⟩
    have q14 := q12.below hb4
    go_wp2_with (refine wpList_putOb (k := oz) rfl rfl rfl rfl q14 ?_; intro w3 ht3 hbk3)
    exact ret_blk2 rfl rfl rfl hbk3 aggOb sizeOb ⟨none, 0, 0, rfl, RdO.zero _, (bstep HB2 hb4).trans (ht3.below _ (by omega)), KA.none _ _⟩
  simp only [Bool.and_true, if_true]
  have hmc : n ≤ c := HR.out.nc
  have hcm : c ≤ 9223372036854775807 := HR.out.cm
  go_enter Try.func11, Try.ntmps11
  go_upto_region 1 with (fail)
  change Code.wp _ _ _ _ ((w.alloc (.cells (obC o A n c) 24)).alloc (.cells (obC oz none 0 0) 24))
  rw [← HWA.out]
  go_wp2_with (refine wpList_loadOb rfl rfl rfl q0 ?_)
  refine (HV.out _ HRa.out).mono ?_
  rintro e w1 ⟨rfl, hb1⟩
  have q11 := q1.below hb1
  have q01 := q0.below hb1
  have HB1 := bstep hb0 hb1
  obtain ⟨c0, -, -, -⟩ := q01.ob
  go_wp2_with (refine wpList_loadRowW (by rfl) rfl rfl q01 aggOb sizeOb ?_)
  refine (HE.out _).mono ?_
  rintro e w2 ⟨rfl, hb2⟩
  have q12 := q11.below hb2
  have q02 := q01.below hb2
  have HB2 := bstep HB1 hb2
  go_wp2_with fail
  refine (HB.out _).mono ?_
  rintro e w4 ⟨rfl, hb4⟩
  have q14 := q12.below hb4
  have q04 := q02.below hb4
  have HB4 := bstep HB2 hb4
  have HR4 := Lib.hid (HR.out.below HB4)
  obtain ⟨e0, -, -, e3⟩ := q04.ob
  clear c0
  go_upto_region 3 with (fail)
  have hwk : wrap64 (u - o.base) = (k : Int) := by have := HK2.out; unfold wrap64; omega
  clear hB0 hB4 h1 h2 hk0
  go_wp2_with (first
    | (refine wpList_set rfl rfl (by kernel_rfl) rfl rfl rfl q04 (cs' := obC ⟨o.base, o.acked, o.summary, o.queue.drop k⟩ (if c = k then A else A.map (·.add k)) (n - k) (c - k)) (by simp) rfl ?_; intro w5 ht5 q05)
    | (refine wpList_set rfl rfl (by kernel_rfl) rfl rfl rfl q05 (cs' := obC ⟨u, o.acked, o.summary, o.queue.drop k⟩ (if c = k then A else A.map (·.add k)) (n - k) (c - k)) (by simp) rfl ?_; intro w6 ht6 q06)
    | (refine wpList_set rfl rfl (by kernel_rfl) rfl rfl rfl q06 (cs' := obC ⟨u, o.acked, s, o.queue.drop k⟩ (if c = k then A else A.map (·.add k)) (n - k) (c - k)) (by simp) rfl ?_; intro w7 ht7 q07; have q17 := ht7.blk (ht6.blk (ht5.blk q14 (by omega)) (by omega)) (by omega))
    | (refine wpList_loadOb rfl rfl rfl q07 ?_)
    | (refine wpList_putOb (k := ⟨u, o.acked, s, o.queue.drop k⟩) rfl rfl rfl rfl q17 ?_; intro w9 ht9 q19))
  all_goals
    have HB9 : Below w.heap.size w w9 := (((HB4.trans (ht5.below _ (Nat.le_refl _))).trans (ht6.below _ (Nat.le_refl _))).trans (ht7.below _ (Nat.le_refl _))).trans (ht9.below _ (by omega))
    exact ret_blk2 rfl rfl rfl q19 aggOb sizeOb ⟨_, _, _, rfl, RdO.cut (o := o) (HR.out.below HB9) hkn rfl, HB9, KA.cut _ _ _ _⟩
end Go.Proofs.Ytecklplohgfohaa
