/-
  Put in the reference. Conditions: none.
-/
import Derived.Test.YtecklplohgfohaaLx
namespace Go.Proofs.Ytecklplohgfohaa
set_option linter.unusedSimpArgs false
set_option linter.unusedVariables false
open Go.RowKit Link
set_option maxRecDepth 20000 in
set_option maxHeartbeats 4000000 in
theorem refPut_any (o : Ob) (A : Option Addr) (n c : Nat) (s : ByteArray) (w : World) (hr : RdO w o A n c) (ho : WfO o) (hs : s.size ≤ maxLen) :
    Calls Try.prog 14 #[obV o A n c, .string s] w (OutR (putO o s).1 (putO o s).2 w) := by
  have HV := Lib.hid (fun W (h : RdO W o A n c) => refValidOut_any o A n c W (Nat.le_trans h.nc h.cm) h.len h.rd ho)
  have HE := Lib.hid (fun W => refEnd_any o A n c W)
  have HVT : Hid (validOut o = true → _) := Lib.hid (fun h => validOut_facts h)
  have HR := Lib.hid hr
  have HL := Lib.hid hr.len
  have HS : Hid (decide ((65536 : Int) < s.size) = !short s) := Lib.hid (by unfold short; rw [Bool.eq_iff_iff]; simp; omega)
  clear ho hr
  unfold putO
  generalize validOut o = V at *
  obtain ⟨wa, hwa, hb0, q0, q1⟩ := outBox2 w o A n c
  have HWA := Lib.hid hwa
  clear hwa
  have HRa := Lib.hid (HR.out.below hb0)
  unfold maxLen at hs
  generalize short s = S at *
  have hS := HS.out
  clear HS
  cases V
  · simp only [Bool.false_and, Bool.false_eq_true, if_false]
    clear hS
    go_enter Try.func14, Try.ntmps14
    go_upto_region 1 with (fail)
    change Code.wp _ _ _ _ ((w.alloc (.cells (obC o A n c) 24)).alloc (.cells (outC oz none 0 0 0) 36))
    rw [← HWA.out]
    go_wp2_with (refine wpList_loadOb rfl rfl rfl q0 ?_)
    refine (HV.out _ HRa.out).mono ?_
    rintro e w1 ⟨rfl, hb⟩
    replace q0 := q0.below hb
    replace q1 := q1.below hb
    replace hb0 := bstep hb0 hb
    clear hb
    obtain ⟨c0, c1, c2, c3⟩ := q0.ob
    clear c0 c1 c2 c3
    have hbd := buildOutE1
    go_wp2_with (first
      | (refine wpList_loadOb rfl rfl rfl q0 ?_)
      | (refine wpList_putOut (k := oz) (er := 1) rfl rfl rfl rfl q1 rfl ?_; intro w9 ht9 q9))
    exact ret_blk rfl rfl rfl q9 aggOut sizeOut ⟨_, _, _, rfl, RdO.zero _, hb0.trans (ht9.below _ (by omega))⟩
  obtain ⟨⟨hB0, hB4⟩, ⟨hA0, hA1, hA2⟩, hQ⟩ := HVT.out rfl
  rw [HL.out] at hQ
  clear HVT
  have hw : wrap64 (o.base + n) = o.fin := by have := HL.out; unfold wrap64 Ob.fin; omega
  rw [hw] at HE
  have HF : Hid (o.fin = o.base + n) := Lib.hid (by have := HL.out; unfold Ob.fin; omega)
  clear hw
  cases S
  · simp only [Bool.and_false, Bool.false_eq_true, if_false]
    simp only [Bool.not_false] at hS
    clear hB0 hB4 hQ HF hA0 hA1 hA2
    go_enter Try.func14, Try.ntmps14
    go_upto_region 1 with (fail)
    change Code.wp _ _ _ _ ((w.alloc (.cells (obC o A n c) 24)).alloc (.cells (outC oz none 0 0 0) 36))
    rw [← HWA.out]
    go_wp2_with (refine wpList_loadOb rfl rfl rfl q0 ?_)
    refine (HV.out _ HRa.out).mono ?_
    rintro e w1 ⟨rfl, hb⟩
    replace q0 := q0.below hb
    replace q1 := q1.below hb
    replace hb0 := bstep hb0 hb
    clear hb
    obtain ⟨c0, c1, c2, c3⟩ := q0.ob
    clear c0 c1 c2 c3
    have hbd := buildOutE1
    go_wp2_with (first
      | (refine wpList_loadOb rfl rfl rfl q0 ?_)
      | (refine wpList_putOut (k := oz) (er := 1) rfl rfl rfl rfl q1 rfl ?_; intro w9 ht9 q9))
    exact ret_blk rfl rfl rfl q9 aggOut sizeOut ⟨_, _, _, rfl, RdO.zero _, hb0.trans (ht9.below _ (by omega))⟩
  simp only [Bool.and_true, if_true]
  simp only [Bool.not_true] at hS
  by_cases h1 : n = 1000
  · rw [if_pos (Or.inl (by rw [HL.out]; exact h1))]
    have d1 : ((n : Int) == 1000) = true := by simp; omega
    clear hB0 hB4 hQ HF hA0 hA1 hA2 h1
    go_enter Try.func14, Try.ntmps14
    go_upto_region 1 with (fail)
    change Code.wp _ _ _ _ ((w.alloc (.cells (obC o A n c) 24)).alloc (.cells (outC oz none 0 0 0) 36))
    rw [← HWA.out]
    go_wp2_with (refine wpList_loadOb rfl rfl rfl q0 ?_)
    refine (HV.out _ HRa.out).mono ?_
    rintro e w1 ⟨rfl, hb⟩
    replace q0 := q0.below hb
    replace q1 := q1.below hb
    replace hb0 := bstep hb0 hb
    clear hb
    obtain ⟨c0, c1, c2, c3⟩ := q0.ob
    have hbd := buildOutE2
    go_wp2_with (first
      | (refine wpList_loadOb rfl rfl rfl q0 ?_)
      | (refine wpList_putOut (k := oz) (er := 2) rfl rfl rfl rfl q1 rfl ?_; intro w9 ht9 q9))
    exact ret_blk rfl rfl rfl q9 aggOut sizeOut ⟨_, _, _, rfl, RdO.zero _, hb0.trans (ht9.below _ (by omega))⟩
  have d1 : ((n : Int) == 1000) = false := by simp; omega
  by_cases h2 : 1099511627776 ≤ o.fin
  · rw [if_pos (Or.inr (by unfold Link.maxOut; exact h2))]
    have d2 : decide (1099511627776 ≤ o.fin) = true := by simpa using h2
    generalize o.fin = F at *
    clear hB0 hB4 hQ HF hA0 hA1 hA2 h1 h2
    go_enter Try.func14, Try.ntmps14
    go_upto_region 1 with (fail)
    change Code.wp _ _ _ _ ((w.alloc (.cells (obC o A n c) 24)).alloc (.cells (outC oz none 0 0 0) 36))
    rw [← HWA.out]
    go_wp2_with (refine wpList_loadOb rfl rfl rfl q0 ?_)
    refine (HV.out _ HRa.out).mono ?_
    rintro e w1 ⟨rfl, hb⟩
    replace q0 := q0.below hb
    replace q1 := q1.below hb
    replace hb0 := bstep hb0 hb
    clear hb
    obtain ⟨c0, c1, c2, c3⟩ := q0.ob
    go_wp2_with (refine wpList_loadRowW (by rfl) rfl rfl q0 aggOb sizeOb ?_)
    refine (HE.out _).mono ?_
    rintro e w2 ⟨rfl, hb⟩
    replace q0 := q0.below hb
    replace q1 := q1.below hb
    replace hb0 := bstep hb0 hb
    clear hb
    obtain ⟨c0, c1, c2, c3⟩ := q0.ob
    have hbd := buildOutE2
    go_wp2_with (first
      | (refine wpList_loadOb rfl rfl rfl q0 ?_)
      | (refine wpList_putOut (k := oz) (er := 2) rfl rfl rfl rfl q1 rfl ?_; intro w9 ht9 q9))
    exact ret_blk rfl rfl rfl q9 aggOut sizeOut ⟨_, _, _, rfl, RdO.zero _, hb0.trans (ht9.below _ (by omega))⟩
  rw [if_neg (by rw [HL.out]; unfold Link.maxOut; omega)]
  have d2 : decide (1099511627776 ≤ o.fin) = false := by simpa using h2
  generalize o.fin = F at *
  clear hB0 hB4 HF hA0 hA1 hA2 h1 h2
  have HQL : Hid (∀ A c W, Rd W A (n + 1) (sv o.queue ++ sv [s]) → n + 1 ≤ c → c ≤ maxLen → RdO W ⟨o.base, o.acked, o.summary, o.queue ++ [s]⟩ A (n + 1) c) := Lib.hid (fun A c W hr hnc hc => ⟨hnc, hc, by simp [HL.out], by simpa [sv] using hr⟩)
  go_enter Try.func14, Try.ntmps14
  go_upto_region 1 with (fail)
  change Code.wp _ _ _ _ ((w.alloc (.cells (obC o A n c) 24)).alloc (.cells (outC oz none 0 0 0) 36))
  rw [← HWA.out]
  go_wp2_with (refine wpList_loadOb rfl rfl rfl q0 ?_)
  refine (HV.out _ HRa.out).mono ?_
  rintro e w1 ⟨rfl, hb⟩
  replace q0 := q0.below hb
  replace q1 := q1.below hb
  replace hb0 := bstep hb0 hb
  clear hb
  obtain ⟨c0, c1, c2, c3⟩ := q0.ob
  go_wp2_with (refine wpList_loadRowW (by rfl) rfl rfl q0 aggOb sizeOb ?_)
  refine (HE.out _).mono ?_
  rintro e w2 ⟨rfl, hb⟩
  replace q0 := q0.below hb
  replace q1 := q1.below hb
  replace hb0 := bstep hb0 hb
  clear hb
  obtain ⟨c0, c1, c2, c3⟩ := q0.ob
  have HR2 := HR.out.below hb0
  have hq0 := q0.lt
  have hq1 := q1.lt
  go_wp2_with (first
    | (refine wpList_lit0s rfl rfl ?_; intro w3 g3 hown3 hb3; have d3 := c3; replace d3 := cell_later hb3 d3)
    | (refine wpList_appK rfl rfl elemSt rfl hown3 rfl (m := n) (by simpa using (HR2.below hb3).rd) (one_sv _) (by omega) (by have := hb3.size; omega) ?_; intro v4 w4 hown4 _ hb4; rw [Nat.zero_add] at hown4; obtain ⟨A4, c4, rfl, h41, h42, hr4⟩ := ownsRow_form hown4)
    | (refine wpList_lit1s rfl rfl rfl ?_; intro w6 g6 hg6 hr6 hb6; clear hg6)
    | (refine wpList_appK rfl rfl elemSt rfl (ownsRow_below hown4 hb6) rfl (m := 1) hr6 (one_sv _) (by omega) (by have := hb6.size; have := hb4.size; have := hb3.size; omega) ?_; intro v7 w7 hown7 _ hb7; obtain ⟨A7, c7, rfl, h71, h72, hr7⟩ := ownsRow_form hown7; have hB27 : Below w2.heap.size w2 w7 := hb3.trans (hb4.trans ((hb6.mono (by have := hb4.size; have := hb3.size; omega)).trans hb7)); have q07 := q0.below hB27; have q17 := q1.below hB27)
    | (refine wpList_set rfl rfl (by kernel_rfl) rfl rfl rfl q07 (cs' := obC ⟨o.base, o.acked, o.summary, o.queue ++ [s]⟩ A7 (n + 1) c7) (by simp) rfl ?_; intro w8 ht8 q08; have q18 := ht8.blk q17 (by omega); have hbd := buildOutO ⟨o.base, o.acked, o.summary, o.queue ++ [s]⟩ A7 (n + 1) c7)
    | (refine wpList_loadOb rfl rfl rfl q08 ?_)
    | (refine wpList_putOut (k := ⟨o.base, o.acked, o.summary, o.queue ++ [s]⟩) (er := 0) rfl rfl rfl rfl q18 rfl ?_; intro w9 ht9 q9))
  have hne : (Value.slice A7 (n + 1) c7).ownBlock ≠ some w.heap.size := fun e => by have := (World.ownsRow.lt hown7 _ e).1; omega
  have hne2 : (Value.slice A7 (n + 1) c7).ownBlock ≠ some (w.heap.size + 1) := fun e => by have := (World.ownsRow.lt hown7 _ e).1; omega
  have hfin := ht9.own (ht8.own hown7 hne) hne2
  obtain ⟨A', c', hv', -, -, hrf⟩ := ownsRow_form hfin
  injection hv' with hA' _ _
  subst hA'
  exact ret_blk rfl rfl rfl q9 aggOut sizeOut ⟨A7, n + 1, c7, rfl, HQL.out _ _ _ (by simpa using hrf) h71 h72, ((bstep hb0 hB27).trans (ht8.below _ (Nat.le_refl _))).trans (ht9.below _ (by omega))⟩
end Go.Proofs.Ytecklplohgfohaa
