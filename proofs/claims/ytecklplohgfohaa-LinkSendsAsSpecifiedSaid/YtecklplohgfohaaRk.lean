/-
  Acknowledge in the reference. Conditions: none.
-/
import Derived.Test.YtecklplohgfohaaLx
namespace Go.Proofs.Ytecklplohgfohaa
set_option linter.unusedSimpArgs false
set_option linter.unusedVariables false
open Go.RowKit Link
set_option maxRecDepth 20000 in
set_option maxHeartbeats 4000000 in
theorem refAck_any (o : Ob) (A : Option Addr) (n c : Nat) (u : Int) (w : World) (hr : RdO w o A n c) (ho : WfO o) :
    Calls Try.prog 17 #[obV o A n c, .int .i64 u] w (OutR (ackO o u).1 (ackO o u).2 w) := by
  have HV := Lib.hid (fun W (h : RdO W o A n c) => refValidOut_any o A n c W (Nat.le_trans h.nc h.cm) h.len h.rd ho)
  have HE := Lib.hid (fun W => refEnd_any o A n c W)
  have HVT : Hid (validOut o = true → _) := Lib.hid (fun h => validOut_facts h)
  have HR := Lib.hid hr
  have HL := Lib.hid hr.len
  clear ho hr
  unfold ackO
  generalize validOut o = V at *
  obtain ⟨wa, hwa, hb0, q0, q1⟩ := outBox2 w o A n c
  have HWA := Lib.hid hwa
  clear hwa
  have HRa := Lib.hid (HR.out.below hb0)
  cases V
  · simp only [Bool.false_and, Bool.false_eq_true, if_false]
    go_enter Try.func17, Try.ntmps17
    go_upto_region 1 with (fail)
    change Code.wp _ _ _ _ ((w.alloc (.cells (obC o A n c) 24)).alloc (.cells (outC oz none 0 0 0) 36))
    rw [← HWA.out]
    go_wp2_with (refine wpList_loadOb rfl rfl rfl q0 ?_)
    refine (HV.out _ HRa.out).mono ?_
    rintro e w1 ⟨rfl, hb⟩
    replace q0 := q0.below hb
    replace q1 := q1.below hb
    replace hb0 := bstep hb0 hb
    clear hb
    obtain ⟨c0, c1, c2, c3⟩ := q0.ob
    clear c0 c1 c2 c3
    have hbd := buildOutE1
    go_wp2_with (first
      | (refine wpList_loadOb rfl rfl rfl q0 ?_)
      | (refine wpList_putOut (k := oz) (er := 1) rfl rfl rfl rfl q1 rfl ?_; intro w9 ht9 q9))
    exact ret_blk rfl rfl rfl q9 aggOut sizeOut ⟨_, _, _, rfl, RdO.zero _, hb0.trans (ht9.below _ (by omega))⟩
  obtain ⟨⟨hB0, hB4⟩, ⟨hA0, hA1, hA2⟩, hQ⟩ := HVT.out rfl
  rw [HL.out] at hQ
  clear HVT
  have hw : wrap64 (o.base + n) = o.fin := by have := HL.out; unfold wrap64 Ob.fin; omega
  rw [hw] at HE
  have HF : Hid (o.fin = o.base + n) := Lib.hid (by have := HL.out; unfold Ob.fin; omega)
  clear hw
  by_cases h1 : u < 0
  · have d0 : decide (0 ≤ u) = false := by simp; omega
    have d1 : decide (u < 0) = true := by simp; omega
    simp only [d0, Bool.and_false, Bool.false_and, Bool.false_eq_true, if_false]
    clear d0 h1 hB0 hB4 hQ HF hA0 hA1 hA2
    go_enter Try.func17, Try.ntmps17
    go_upto_region 1 with (fail)
    change Code.wp _ _ _ _ ((w.alloc (.cells (obC o A n c) 24)).alloc (.cells (outC oz none 0 0 0) 36))
    rw [← HWA.out]
    go_wp2_with (refine wpList_loadOb rfl rfl rfl q0 ?_)
    refine (HV.out _ HRa.out).mono ?_
    rintro e w1 ⟨rfl, hb⟩
    replace q0 := q0.below hb
    replace q1 := q1.below hb
    replace hb0 := bstep hb0 hb
    clear hb
    obtain ⟨c0, c1, c2, c3⟩ := q0.ob
    have hbd := buildOutE1
    go_wp2_with (first
      | (refine wpList_loadOb rfl rfl rfl q0 ?_)
      | (refine wpList_putOut (k := oz) (er := 1) rfl rfl rfl rfl q1 rfl ?_; intro w9 ht9 q9))
    exact ret_blk rfl rfl rfl q9 aggOut sizeOut ⟨_, _, _, rfl, RdO.zero _, hb0.trans (ht9.below _ (by omega))⟩
  have d0 : decide (0 ≤ u) = true := by simp; omega
  have d1 : decide (u < 0) = false := by simp; omega
  simp only [d0, Bool.true_and]
  clear d0
  by_cases h2 : o.fin < u
  · have d0 : decide (u ≤ o.fin) = false := by simp; omega
    have d2 : decide (o.fin < u) = true := by simp; omega
    simp only [d0, Bool.and_false, Bool.false_and, Bool.false_eq_true, if_false]
    generalize o.fin = F at *
    clear d0 h1 h2 hB0 hB4 hQ HF hA0 hA1 hA2
    go_enter Try.func17, Try.ntmps17
    go_upto_region 1 with (fail)
    change Code.wp _ _ _ _ ((w.alloc (.cells (obC o A n c) 24)).alloc (.cells (outC oz none 0 0 0) 36))
    rw [← HWA.out]
    go_wp2_with (refine wpList_loadOb rfl rfl rfl q0 ?_)
    refine (HV.out _ HRa.out).mono ?_
    rintro e w1 ⟨rfl, hb⟩
    replace q0 := q0.below hb
    replace q1 := q1.below hb
    replace hb0 := bstep hb0 hb
    clear hb
    obtain ⟨c0, c1, c2, c3⟩ := q0.ob
    go_wp2_with (refine wpList_loadRowW (by rfl) rfl rfl q0 aggOb sizeOb ?_)
    refine (HE.out _).mono ?_
    rintro e w2 ⟨rfl, hb⟩
    replace q0 := q0.below hb
    replace q1 := q1.below hb
    replace hb0 := bstep hb0 hb
    clear hb
    obtain ⟨c0, c1, c2, c3⟩ := q0.ob
    have hbd := buildOutE1
    go_wp2_with (first
      | (refine wpList_loadOb rfl rfl rfl q0 ?_)
      | (refine wpList_putOut (k := oz) (er := 1) rfl rfl rfl rfl q1 rfl ?_; intro w9 ht9 q9))
    exact ret_blk rfl rfl rfl q9 aggOut sizeOut ⟨_, _, _, rfl, RdO.zero _, hb0.trans (ht9.below _ (by omega))⟩
  have d0 : decide (u ≤ o.fin) = true := by simp; omega
  have d2 : decide (o.fin < u) = false := by simp; omega
  simp only [d0, if_true]
  clear d0
  by_cases h3 : u ≤ o.acked
  · rw [if_pos h3]
    have d3 : decide (u ≤ o.acked) = true := by simpa using h3
    generalize o.fin = F at *
    clear hB0 hB4 hQ HF hA0 hA1 hA2 h1 h2 h3
    go_enter Try.func17, Try.ntmps17
    go_upto_region 1 with (fail)
    change Code.wp _ _ _ _ ((w.alloc (.cells (obC o A n c) 24)).alloc (.cells (outC oz none 0 0 0) 36))
    rw [← HWA.out]
    go_wp2_with (refine wpList_loadOb rfl rfl rfl q0 ?_)
    refine (HV.out _ HRa.out).mono ?_
    rintro e w1 ⟨rfl, hb⟩
    replace q0 := q0.below hb
    replace q1 := q1.below hb
    replace hb0 := bstep hb0 hb
    clear hb
    obtain ⟨c0, c1, c2, c3⟩ := q0.ob
    go_wp2_with (refine wpList_loadRowW (by rfl) rfl rfl q0 aggOb sizeOb ?_)
    refine (HE.out _).mono ?_
    rintro e w2 ⟨rfl, hb⟩
    replace q0 := q0.below hb
    replace q1 := q1.below hb
    replace hb0 := bstep hb0 hb
    clear hb
    obtain ⟨c0, c1, c2, c3⟩ := q0.ob
    have hbd := buildOutO o (A) (n) (c)
    go_wp2_with (first
      | (refine wpList_loadOb rfl rfl rfl q0 ?_)
      | (refine wpList_putOut (k := o) (er := 0) rfl rfl rfl rfl q1 rfl ?_; intro w9 ht9 q9))
    exact ret_blk rfl rfl rfl q9 aggOut sizeOut ⟨_, _, _, rfl, HR.out.below (hb0.trans (ht9.below _ (by omega))), hb0.trans (ht9.below _ (by omega))⟩
  rw [if_neg h3]
  have d3 : decide (u ≤ o.acked) = false := by simpa using h3
  by_cases h4 : u ≤ o.base
  · rw [if_pos h4]
    have d4 : decide (o.base < u) = false := by simp; omega
    generalize o.fin = F at *
    clear hB0 hB4 hQ HF hA0 hA1 hA2 h1 h2 h3 h4
    have hbd := buildOutO { o with acked := u } A n c
    go_enter Try.func17, Try.ntmps17
    go_upto_region 1 with (fail)
    change Code.wp _ _ _ _ ((w.alloc (.cells (obC o A n c) 24)).alloc (.cells (outC oz none 0 0 0) 36))
    rw [← HWA.out]
    go_wp2_with (refine wpList_loadOb rfl rfl rfl q0 ?_)
    refine (HV.out _ HRa.out).mono ?_
    rintro e w1 ⟨rfl, hb⟩
    replace q0 := q0.below hb
    replace q1 := q1.below hb
    replace hb0 := bstep hb0 hb
    clear hb
    obtain ⟨c0, c1, c2, c3⟩ := q0.ob
    go_wp2_with (refine wpList_loadRowW (by rfl) rfl rfl q0 aggOb sizeOb ?_)
    refine (HE.out _).mono ?_
    rintro e w2 ⟨rfl, hb⟩
    replace q0 := q0.below hb
    replace q1 := q1.below hb
    replace hb0 := bstep hb0 hb
    clear hb
    obtain ⟨c0, c1, c2, c3⟩ := q0.ob
    clear c2 c3
    go_wp2_with (first
      | (refine wpList_set rfl rfl (by kernel_rfl) rfl rfl rfl q0 (cs' := obC { o with acked := u } A n c) (by simp) rfl ?_; intro w5 ht5 q5; have q15 := ht5.blk q1 (by omega); obtain ⟨e0, -, -, -⟩ := q5.ob; clear c0 c1)
      | (refine wpList_loadOb rfl rfl rfl q5 ?_)
      | (refine wpList_putOut (k := { o with acked := u }) (er := 0) rfl rfl rfl rfl q15 rfl ?_; intro w9 ht9 q9))
    have HB9 : Below w.heap.size w w9 := (hb0.trans (ht5.below _ (Nat.le_refl _))).trans (ht9.below _ (by omega))
    have hr9 := HR.out.below HB9
    exact ret_blk rfl rfl rfl q9 aggOut sizeOut ⟨_, _, _, rfl, ⟨hr9.nc, hr9.cm, hr9.len, hr9.rd⟩, HB9⟩
  rw [if_neg h4]
  have d4 : decide (o.base < u) = true := by simp; omega
  obtain ⟨k, hk⟩ : ∃ k : Nat, u = o.base + k := ⟨(u - o.base).toNat, by omega⟩
  have hkn : k ≤ n := by have := HF.out; omega
  have hd : (u - o.base).toNat = k := by omega
  rw [hd]
  have hwk : wrap64 (u - o.base) = (k : Int) := by unfold wrap64; omega
  have hmc : n ≤ c := HR.out.nc
  have hcm : c ≤ 9223372036854775807 := HR.out.cm
  generalize o.fin = F at *
  clear hd hk hB0 hB4 HF hA0 hA1 hA2 h1 h2 h3 h4
  have HQL : Hid (∀ A c W, Rd W A (n - k) (sv (o.queue.drop k)) → n - k ≤ c → c ≤ maxLen → RdO W ⟨u, u, ⟨#[]⟩, o.queue.drop k⟩ A (n - k) c) := Lib.hid (fun A c W hr hnc hc => ⟨hnc, hc, by simp [HL.out], hr⟩)
  go_enter Try.func17, Try.ntmps17
  go_upto_region 1 with (fail)
  change Code.wp _ _ _ _ ((w.alloc (.cells (obC o A n c) 24)).alloc (.cells (outC oz none 0 0 0) 36))
  rw [← HWA.out]
  go_wp2_with (refine wpList_loadOb rfl rfl rfl q0 ?_)
  refine (HV.out _ HRa.out).mono ?_
  rintro e w1 ⟨rfl, hb⟩
  replace q0 := q0.below hb
  replace q1 := q1.below hb
  replace hb0 := bstep hb0 hb
  clear hb
  obtain ⟨c0, c1, c2, c3⟩ := q0.ob
  go_wp2_with (refine wpList_loadRowW (by rfl) rfl rfl q0 aggOb sizeOb ?_)
  refine (HE.out _).mono ?_
  rintro e w2 ⟨rfl, hb⟩
  replace q0 := q0.below hb
  replace q1 := q1.below hb
  replace hb0 := bstep hb0 hb
  clear hb
  obtain ⟨c0, c1, c2, c3⟩ := q0.ob
  have HR2 := HR.out.below hb0
  have hq0 := q0.lt
  have hq1 := q1.lt
  have hrk : Rd w2 (if c = k then A else A.map (·.add k)) (n - k) (sv (o.queue.drop k)) := by have := (RdO.cut (o := o) (o' := ⟨o.base, o.acked, o.summary, o.queue.drop k⟩) HR2 hkn rfl).rd; simpa using this
  go_upto_region 7 with (refine wpList_set rfl rfl (by kernel_rfl) rfl rfl rfl q0 (cs' := obC { o with acked := u } A n c) (by simp) rfl ?_; intro w5 ht5 q5; have q15 := ht5.blk q1 (by omega); clear c0 c1 c2 c3; obtain ⟨e0, -, -, e3⟩ := q5.ob)
  have hB5 : Below w.heap.size w w5 := hb0.trans (ht5.below _ (Nat.le_refl _))
  have hz5 := ht5.size
  have hrk5 : Rd w5 (if c = k then A else A.map (·.add k)) (n - k) (sv (o.queue.drop k)) := by have := (RdO.cut (o := o) (o' := ⟨o.base, o.acked, o.summary, o.queue.drop k⟩) (HR.out.below hB5) hkn rfl).rd; simpa using this
  have HZ5 := Lib.hid hz5
  clear hz5 q0 q1 hrk
  go_wp2_with (first
    | (refine wpList_lit0s rfl rfl ?_; intro w6 g6 hown6 hb6; have f3 := cell_later hb6 e3; have f0 := cell_later hb6 e0; clear e3 e0)
    | (refine wpList_appK rfl rfl elemSt rfl hown6 rfl (A := if c = k then A else A.map (·.add k)) (c := c - k) (m := n - k) (by simpa using hrk5.below hb6) (one_sv _) (by omega) (by have := hb6.size; omega) ?_; intro v4 w4 hown4 _ hb4; rw [Nat.zero_add, List.nil_append] at hown4; obtain ⟨A4, c4, rfl, h41, h42, hr4⟩ := ownsRow_form hown4; have hB24 : Below w5.heap.size w5 w4 := hb6.trans hb4; have q04 := q5.below hB24; have q14 := q15.below hB24; have hbd := buildOutO ⟨u, u, ⟨#[]⟩, o.queue.drop k⟩ A4 (n - k) c4; clear f3 f0)
    | (refine wpList_set rfl rfl (by kernel_rfl) rfl rfl rfl q04 (cs' := obC ⟨o.base, u, o.summary, o.queue.drop k⟩ A4 (n - k) c4) (by simp) rfl ?_; intro w7 ht7 q7; have q17 := ht7.blk q14 (by omega); clear q04 q14)
    | (refine wpList_set rfl rfl (by kernel_rfl) rfl rfl rfl q7 (cs' := obC ⟨u, u, o.summary, o.queue.drop k⟩ A4 (n - k) c4) (by simp) rfl ?_; intro w8 ht8 q8; have q18 := ht8.blk q17 (by omega); clear q7 q17)
    | (refine wpList_set rfl rfl (by kernel_rfl) rfl rfl rfl q8 (cs' := obC ⟨u, u, ⟨#[]⟩, o.queue.drop k⟩ A4 (n - k) c4) (by simp) rfl ?_; intro w10 ht10 q10; have q110 := ht10.blk q18 (by omega); clear q8 q18)
    | (refine wpList_loadOb rfl rfl rfl q10 ?_)
    | (refine wpList_putOut (k := ⟨u, u, ⟨#[]⟩, o.queue.drop k⟩) (er := 0) rfl rfl rfl rfl q110 rfl ?_; intro w9 ht9 q9))
  all_goals
    have hz5 := HZ5.out
    have hne : (Value.slice A4 (n - k) c4).ownBlock ≠ some w.heap.size := fun e => by have := (World.ownsRow.lt hown4 _ e).1; omega
    have hne2 : (Value.slice A4 (n - k) c4).ownBlock ≠ some (w.heap.size + 1) := fun e => by have := (World.ownsRow.lt hown4 _ e).1; omega
    have hfin := ht9.own (ht10.own (ht8.own (ht7.own hown4 hne) hne) hne) hne2
    obtain ⟨A', c', hv', -, -, hrf⟩ := ownsRow_form hfin
    injection hv' with hA' _ _
    subst hA'
    exact ret_blk rfl rfl rfl q9 aggOut sizeOut ⟨A4, n - k, c4, rfl, HQL.out _ _ _ (by simpa using hrf) h41 h42, ((((bstep hB5 hB24).trans (ht7.below _ (Nat.le_refl _))).trans (ht8.below _ (Nat.le_refl _))).trans (ht10.below _ (Nat.le_refl _))).trans (ht9.below _ (by omega))⟩
end Go.Proofs.Ytecklplohgfohaa
