/-
  Fold in the reference. Conditions: none.
-/
import Derived.Test.YtecklplohgfohaaLx
namespace Go.Proofs.Ytecklplohgfohaa
set_option linter.unusedSimpArgs false
set_option linter.unusedVariables false
open Go.RowKit Link
set_option maxRecDepth 20000 in
set_option maxHeartbeats 4000000 in
theorem refFold_any (o : Ob) (A : Option Addr) (n c : Nat) (u : Int) (s : ByteArray) (w : World) (hr : RdO w o A n c) (ho : WfO o) (hs : s.size ≤ maxLen) :
    Calls Try.prog 15 #[obV o A n c, .int .i64 u, .string s] w (OutR (foldO o u s).1 (foldO o u s).2 w) := by
  have HV := Lib.hid (fun W (h : RdO W o A n c) => refValidOut_any o A n c W (Nat.le_trans h.nc h.cm) h.len h.rd ho)
  have HE := Lib.hid (fun W => refEnd_any o A n c W)
  have HVT : Hid (validOut o = true → _) := Lib.hid (fun h => validOut_facts h)
  have HR := Lib.hid hr
  have HL := Lib.hid hr.len
  have HS : Hid (decide ((65536 : Int) < s.size) = !short s) := Lib.hid (by unfold short; rw [Bool.eq_iff_iff]; simp; omega)
  clear ho hr
  unfold foldO
  generalize validOut o = V at *
  obtain ⟨wa, hwa, hb0, q0, q1⟩ := outBox2 w o A n c
  have HWA := Lib.hid hwa
  clear hwa
  have HRa := Lib.hid (HR.out.below hb0)
  unfold maxLen at hs
  generalize short s = S at *
  have hS := HS.out
  clear HS
  cases V
  · simp only [Bool.false_and, Bool.false_eq_true, if_false]
    clear hS
    go_enter Try.func15, Try.ntmps15
    go_upto_region 1 with (fail)
    change Code.wp _ _ _ _ ((w.alloc (.cells (obC o A n c) 24)).alloc (.cells (outC oz none 0 0 0) 36))
    rw [← HWA.out]
    go_wp2_with (refine wpList_loadOb rfl rfl rfl q0 ?_)
    refine (HV.out _ HRa.out).mono ?_
    rintro e w1 ⟨rfl, hb⟩
    replace q0 := q0.below hb
    replace q1 := q1.below hb
    replace hb0 := bstep hb0 hb
    clear hb
    obtain ⟨c0, c1, c2, c3⟩ := q0.ob
    clear c0 c1 c2 c3
    have hbd := buildOutE1
    go_wp2_with (first
      | (refine wpList_loadOb rfl rfl rfl q0 ?_)
      | (refine wpList_putOut (k := oz) (er := 1) rfl rfl rfl rfl q1 rfl ?_; intro w9 ht9 q9))
    exact ret_blk rfl rfl rfl q9 aggOut sizeOut ⟨_, _, _, rfl, RdO.zero _, hb0.trans (ht9.below _ (by omega))⟩
  obtain ⟨⟨hB0, hB4⟩, ⟨hA0, hA1, hA2⟩, hQ⟩ := HVT.out rfl
  rw [HL.out] at hQ
  clear HVT
  have hw : wrap64 (o.base + n) = o.fin := by have := HL.out; unfold wrap64 Ob.fin; omega
  rw [hw] at HE
  have HF : Hid (o.fin = o.base + n) := Lib.hid (by have := HL.out; unfold Ob.fin; omega)
  clear hw
  by_cases h1 : u < o.base
  · have d0 : decide (o.base ≤ u) = false := by simp; omega
    have d1 : decide (u < o.base) = true := by simp; omega
    simp only [d0, Bool.and_false, Bool.false_and, Bool.false_eq_true, if_false]
    clear d0 h1 hB0 hB4 hQ HF hA0 hA1 hA2 hS
    go_enter Try.func15, Try.ntmps15
    go_upto_region 1 with (fail)
    change Code.wp _ _ _ _ ((w.alloc (.cells (obC o A n c) 24)).alloc (.cells (outC oz none 0 0 0) 36))
    rw [← HWA.out]
    go_wp2_with (refine wpList_loadOb rfl rfl rfl q0 ?_)
    refine (HV.out _ HRa.out).mono ?_
    rintro e w1 ⟨rfl, hb⟩
    replace q0 := q0.below hb
    replace q1 := q1.below hb
    replace hb0 := bstep hb0 hb
    clear hb
    obtain ⟨c0, c1, c2, c3⟩ := q0.ob
    have hbd := buildOutE1
    go_wp2_with (first
      | (refine wpList_loadOb rfl rfl rfl q0 ?_)
      | (refine wpList_putOut (k := oz) (er := 1) rfl rfl rfl rfl q1 rfl ?_; intro w9 ht9 q9))
    exact ret_blk rfl rfl rfl q9 aggOut sizeOut ⟨_, _, _, rfl, RdO.zero _, hb0.trans (ht9.below _ (by omega))⟩
  have d0 : decide (o.base ≤ u) = true := by simp; omega
  have d1 : decide (u < o.base) = false := by simp; omega
  simp only [d0, Bool.true_and]
  clear d0
  by_cases h2 : o.fin < u
  · have d0 : decide (u ≤ o.fin) = false := by simp; omega
    have d2 : decide (o.fin < u) = true := by simp; omega
    simp only [d0, Bool.and_false, Bool.false_and, Bool.false_eq_true, if_false]
    generalize o.fin = F at *
    clear d0 h1 h2 hB0 hB4 hQ HF hA0 hA1 hA2 hS
    go_enter Try.func15, Try.ntmps15
    go_upto_region 1 with (fail)
    change Code.wp _ _ _ _ ((w.alloc (.cells (obC o A n c) 24)).alloc (.cells (outC oz none 0 0 0) 36))
    rw [← HWA.out]
    go_wp2_with (refine wpList_loadOb rfl rfl rfl q0 ?_)
    refine (HV.out _ HRa.out).mono ?_
    rintro e w1 ⟨rfl, hb⟩
    replace q0 := q0.below hb
    replace q1 := q1.below hb
    replace hb0 := bstep hb0 hb
    clear hb
    obtain ⟨c0, c1, c2, c3⟩ := q0.ob
    go_wp2_with (refine wpList_loadRowW (by rfl) rfl rfl q0 aggOb sizeOb ?_)
    refine (HE.out _).mono ?_
    rintro e w2 ⟨rfl, hb⟩
    replace q0 := q0.below hb
    replace q1 := q1.below hb
    replace hb0 := bstep hb0 hb
    clear hb
    obtain ⟨c0, c1, c2, c3⟩ := q0.ob
    have hbd := buildOutE1
    go_wp2_with (first
      | (refine wpList_loadOb rfl rfl rfl q0 ?_)
      | (refine wpList_putOut (k := oz) (er := 1) rfl rfl rfl rfl q1 rfl ?_; intro w9 ht9 q9))
    exact ret_blk rfl rfl rfl q9 aggOut sizeOut ⟨_, _, _, rfl, RdO.zero _, hb0.trans (ht9.below _ (by omega))⟩
  have d0 : decide (u ≤ o.fin) = true := by simp; omega
  have d2 : decide (o.fin < u) = false := by simp; omega
  simp only [d0, Bool.true_and]
  clear d0
  obtain ⟨k, hk⟩ : ∃ k : Nat, u = o.base + k := ⟨(u - o.base).toNat, by omega⟩
  have hkn : k ≤ n := by have := HF.out; omega
  have hd : (u - o.base).toNat = k := by omega
  rw [hd]
  have hwk : wrap64 (u - o.base) = (k : Int) := by unfold wrap64; omega
  have hmc : n ≤ c := HR.out.nc
  have hcm : c ≤ 9223372036854775807 := HR.out.cm
  generalize o.fin = F at *
  clear hd hk hB0 hB4 HF hA0 hA1 hA2 h1 h2
  cases S
  · simp only [Bool.and_false, Bool.false_and, Bool.false_eq_true, if_false]
    simp only [Bool.not_false] at hS
    go_enter Try.func15, Try.ntmps15
    go_upto_region 1 with (fail)
    change Code.wp _ _ _ _ ((w.alloc (.cells (obC o A n c) 24)).alloc (.cells (outC oz none 0 0 0) 36))
    rw [← HWA.out]
    go_wp2_with (refine wpList_loadOb rfl rfl rfl q0 ?_)
    refine (HV.out _ HRa.out).mono ?_
    rintro e w1 ⟨rfl, hb⟩
    replace q0 := q0.below hb
    replace q1 := q1.below hb
    replace hb0 := bstep hb0 hb
    clear hb
    obtain ⟨c0, c1, c2, c3⟩ := q0.ob
    go_wp2_with (refine wpList_loadRowW (by rfl) rfl rfl q0 aggOb sizeOb ?_)
    refine (HE.out _).mono ?_
    rintro e w2 ⟨rfl, hb⟩
    replace q0 := q0.below hb
    replace q1 := q1.below hb
    replace hb0 := bstep hb0 hb
    clear hb
    obtain ⟨c0, c1, c2, c3⟩ := q0.ob
    have hbd := buildOutE1
    go_wp2_with (first
      | (refine wpList_loadOb rfl rfl rfl q0 ?_)
      | (refine wpList_putOut (k := oz) (er := 1) rfl rfl rfl rfl q1 rfl ?_; intro w9 ht9 q9))
    exact ret_blk rfl rfl rfl q9 aggOut sizeOut ⟨_, _, _, rfl, RdO.zero _, hb0.trans (ht9.below _ (by omega))⟩
  simp only [Bool.and_true, if_true]
  simp only [Bool.not_true] at hS
  have HQL : Hid (∀ A c W, Rd W A (n - k) (sv (o.queue.drop k)) → n - k ≤ c → c ≤ maxLen → RdO W ⟨u, o.acked, s, o.queue.drop k⟩ A (n - k) c) := Lib.hid (fun A c W hr hnc hc => ⟨hnc, hc, by simp [HL.out], hr⟩)
  go_enter Try.func15, Try.ntmps15
  go_upto_region 1 with (fail)
  change Code.wp _ _ _ _ ((w.alloc (.cells (obC o A n c) 24)).alloc (.cells (outC oz none 0 0 0) 36))
  rw [← HWA.out]
  go_wp2_with (refine wpList_loadOb rfl rfl rfl q0 ?_)
  refine (HV.out _ HRa.out).mono ?_
  rintro e w1 ⟨rfl, hb⟩
  replace q0 := q0.below hb
  replace q1 := q1.below hb
  replace hb0 := bstep hb0 hb
  clear hb
  obtain ⟨c0, c1, c2, c3⟩ := q0.ob
  go_wp2_with (refine wpList_loadRowW (by rfl) rfl rfl q0 aggOb sizeOb ?_)
  refine (HE.out _).mono ?_
  rintro e w2 ⟨rfl, hb⟩
  replace q0 := q0.below hb
  replace q1 := q1.below hb
  replace hb0 := bstep hb0 hb
  clear hb
  obtain ⟨c0, c1, c2, c3⟩ := q0.ob
  have HR2 := HR.out.below hb0
  have hq0 := q0.lt
  have hq1 := q1.lt
  have hrk : Rd w2 (if c = k then A else A.map (·.add k)) (n - k) (sv (o.queue.drop k)) := by have := (RdO.cut (o := o) (o' := ⟨o.base, o.acked, o.summary, o.queue.drop k⟩) HR2 hkn rfl).rd; simpa using this
  go_wp2_with (first
    | (refine wpList_lit0s rfl rfl ?_; intro w3 g3 hown3 hb3; have d3 := cell_later hb3 c3; have d0 := cell_later hb3 c0; have d1' := cell_later hb3 c1)
    | (refine wpList_appK rfl rfl elemSt rfl hown3 rfl (A := if c = k then A else A.map (·.add k)) (c := c - k) (m := n - k) (by simpa using hrk.below hb3) (one_sv _) (by omega) (by have := hb3.size; omega) ?_; intro v4 w4 hown4 _ hb4; rw [Nat.zero_add, List.nil_append] at hown4; obtain ⟨A4, c4, rfl, h41, h42, hr4⟩ := ownsRow_form hown4; have hB24 : Below w2.heap.size w2 w4 := hb3.trans hb4; have q04 := q0.below hB24; have q14 := q1.below hB24; obtain ⟨e0, e1, e2, e3⟩ := q04.ob; clear d3 d0 d1'; have hbo := buildOb ⟨u, o.acked, s, o.queue.drop k⟩ A4 (n - k) c4; have hbd := buildOutO ⟨u, o.acked, s, o.queue.drop k⟩ A4 (n - k) c4)
    | (refine wpList_putOut (k := ⟨u, o.acked, s, o.queue.drop k⟩) (er := 0) rfl rfl rfl rfl q14 rfl ?_; intro w9 ht9 q9))
  all_goals
    have hne2 : (Value.slice A4 (n - k) c4).ownBlock ≠ some (w.heap.size + 1) := fun e => by have := (World.ownsRow.lt hown4 _ e).1; omega
    have hfin := ht9.own hown4 hne2
    obtain ⟨A', c', hv', -, -, hrf⟩ := ownsRow_form hfin
    injection hv' with hA' _ _
    subst hA'
    exact ret_blk rfl rfl rfl q9 aggOut sizeOut ⟨A4, n - k, c4, rfl, HQL.out _ _ _ (by simpa using hrf) h41 h42, (bstep hb0 hB24).trans (ht9.below _ (by omega))⟩
end Go.Proofs.Ytecklplohgfohaa
