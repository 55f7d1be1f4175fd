/-
  Put in the program. Conditions: none.
-/
import Derived.Test.YtecklplohgfohaaLw
namespace Go.Proofs.Ytecklplohgfohaa
set_option linter.unusedSimpArgs false
set_option linter.unusedVariables false
open Go.RowKit Link
set_option maxRecDepth 20000 in
set_option maxHeartbeats 4000000 in
theorem put_any (o : Ob) (A : Option Addr) (n c : Nat) (body : ByteArray) (w : World) (hr : RdO w o A n c) (ho : WfO o) (hb : body.size ≤ maxLen) :
    Calls Try.prog 10 #[obV o A n c, .string body] w (OutIs A (putO o body).1 (putO o body).2 w) := by
  have HV := Lib.hid (fun W (h : RdO W o A n c) => validOut_any o A n c W (Nat.le_trans h.nc h.cm) h.len h.rd ho)
  have HB := Lib.hid (fun W => isBody_any body W hb)
  have HE := Lib.hid (fun W => end_any o A n c W)
  have HVT : Hid (validOut o = true → (0 ≤ o.base ∧ o.base ≤ 1099511627776) ∧ o.queue.length ≤ 1000) := Lib.hid (fun h => by
    simp only [validOut, Bool.and_eq_true, decide_eq_true_eq] at h
    unfold Link.maxOut at h
    omega)
  have HR := Lib.hid hr
  have HL := Lib.hid hr.len
  clear ho hb hr
  unfold putO
  generalize validOut o = V at *
  generalize short body = S at *
  obtain ⟨wa, hwa, hb0, q0, q1⟩ := obBox2 w o A n c
  have HWA := Lib.hid hwa
  clear hwa
  have HRa := Lib.hid (HR.out.below hb0)
  cases V
  · simp only [Bool.false_and, Bool.false_eq_true, if_false]
    go_enter Try.func10, Try.ntmps10
    go_upto_region 1 with (fail)
    change Code.wp _ _ _ _ ((w.alloc (.cells (obC o A n c) 24)).alloc (.cells (obC oz none 0 0) 24))
    rw [← HWA.out]
    go_wp2_with (refine wpList_loadOb rfl rfl rfl q0 ?_)
    refine (HV.out _ HRa.out).mono ?_
    rintro e w1 ⟨rfl, hb1⟩
    have q11 := q1.below hb1
    go_wp2_with (refine wpList_putOb (k := oz) rfl rfl rfl rfl q11 ?_; intro w3 ht3 hbk3)
    exact ret_blk2 rfl rfl rfl hbk3 aggOb sizeOb ⟨none, 0, 0, rfl, RdO.zero _, (bstep hb0 hb1).trans (ht3.below _ (by omega)), KA.none _ _⟩
  obtain ⟨⟨hB0, hB4⟩, hQ⟩ := HVT.out rfl
  rw [HL.out] at hQ
  clear HVT
  cases S
  · simp only [Bool.and_false, Bool.false_eq_true, if_false]
    clear hB0 hB4 hQ
    go_enter Try.func10, Try.ntmps10
    go_upto_region 1 with (fail)
    change Code.wp _ _ _ _ ((w.alloc (.cells (obC o A n c) 24)).alloc (.cells (obC oz none 0 0) 24))
    rw [← HWA.out]
    go_wp2_with (refine wpList_loadOb rfl rfl rfl q0 ?_)
    refine (HV.out _ HRa.out).mono ?_
    rintro e w1 ⟨rfl, hb1⟩
    have q01 := q0.below hb1
    have q11 := q1.below hb1
    have HB1 := bstep hb0 hb1
    clear q0 q1 hb0
    go_wp2_with fail
    refine (HB.out _).mono ?_
    rintro e w2 ⟨rfl, hb2⟩
    have q02 := q01.below hb2
    have q12 := q11.below hb2
    have HB2 := bstep HB1 hb2
    clear q01 q11 HB1 hb1 hb2
    go_wp2_with (refine wpList_putOb (k := oz) rfl rfl rfl rfl q12 ?_; intro w3 ht3 hbk3)
    exact ret_blk2 rfl rfl rfl hbk3 aggOb sizeOb ⟨none, 0, 0, rfl, RdO.zero _, HB2.trans (ht3.below _ (by omega)), KA.none _ _⟩
  simp only [Bool.and_true, if_true]
  by_cases h1 : n = 1000
  · rw [if_pos (Or.inl (by rw [HL.out]; exact h1))]
    have d1 : ((n : Int) == 1000) = true := by simp; omega
    clear hB0 hB4 hQ h1
    go_enter Try.func10, Try.ntmps10
    go_upto_region 1 with (fail)
    change Code.wp _ _ _ _ ((w.alloc (.cells (obC o A n c) 24)).alloc (.cells (obC oz none 0 0) 24))
    rw [← HWA.out]
    go_wp2_with (refine wpList_loadOb rfl rfl rfl q0 ?_)
    refine (HV.out _ HRa.out).mono ?_
    rintro e w1 ⟨rfl, hb1⟩
    have q01 := q0.below hb1
    have q11 := q1.below hb1
    have HB1 := bstep hb0 hb1
    clear q0 q1 hb0
    go_wp2_with fail
    refine (HB.out _).mono ?_
    rintro e w2 ⟨rfl, hb2⟩
    have q02 := q01.below hb2
    have q12 := q11.below hb2
    have HB2 := bstep HB1 hb2
    clear q01 q11 HB1 hb1 hb2
    obtain ⟨-, -, -, c3⟩ := q02.ob
    go_wp2_with (refine wpList_putOb (k := oz) rfl rfl rfl rfl q12 ?_; intro w3 ht3 hbk3)
    exact ret_blk2 rfl rfl rfl hbk3 aggOb sizeOb ⟨none, 0, 0, rfl, RdO.zero _, HB2.trans (ht3.below _ (by omega)), KA.none _ _⟩
  have d1 : ((n : Int) == 1000) = false := by simp; omega
  have hw : wrap64 (o.base + n) = o.fin := by have := HL.out; unfold wrap64 Ob.fin; omega
  rw [hw] at HE
  have HF : Hid (o.fin = o.base + n) := Lib.hid (by have := HL.out; unfold Ob.fin; omega)
  by_cases h2 : 1099511627776 ≤ o.fin
  · rw [if_pos (Or.inr (by unfold Link.maxOut; exact h2))]
    have d2 : decide (1099511627776 ≤ o.fin) = true := by simpa using h2
    generalize o.fin = F at *
    clear hB0 hB4 hQ h1 h2 hw HF
    go_enter Try.func10, Try.ntmps10
    go_upto_region 1 with (fail)
    change Code.wp _ _ _ _ ((w.alloc (.cells (obC o A n c) 24)).alloc (.cells (obC oz none 0 0) 24))
    rw [← HWA.out]
    go_wp2_with (refine wpList_loadOb rfl rfl rfl q0 ?_)
    refine (HV.out _ HRa.out).mono ?_
    rintro e w1 ⟨rfl, hb1⟩
    have q01 := q0.below hb1
    have q11 := q1.below hb1
    have HB1 := bstep hb0 hb1
    clear q0 q1 hb0
    go_wp2_with fail
    refine (HB.out _).mono ?_
    rintro e w2 ⟨rfl, hb2⟩
    have q02 := q01.below hb2
    have q12 := q11.below hb2
    have HB2 := bstep HB1 hb2
    clear q01 q11 HB1 hb1 hb2
    obtain ⟨-, -, -, c3⟩ := q02.ob
    go_wp2_with (refine wpList_loadOb rfl rfl rfl q02 ?_)
    refine (HE.out _).mono ?_
    rintro e w4 ⟨rfl, hb4⟩
    have q14 := q12.below hb4
    go_wp2_with (refine wpList_putOb (k := oz) rfl rfl rfl rfl q14 ?_; intro w3 ht3 hbk3)
    exact ret_blk2 rfl rfl rfl hbk3 aggOb sizeOb ⟨none, 0, 0, rfl, RdO.zero _, (bstep HB2 hb4).trans (ht3.below _ (by omega)), KA.none _ _⟩
  rw [if_neg (by rw [HL.out]; unfold Link.maxOut; omega)]
  have d2 : decide (1099511627776 ≤ o.fin) = false := by simpa using h2
  have HC := Lib.hid (fun W (h : RdO W o A n c) => cloneStrs_any A n c o.queue W h.len h.rd (by omega))
  generalize o.fin = F at *
  clear hB0 hB4 h1 h2 hw HF
  · go_enter Try.func10, Try.ntmps10
    go_upto_region 1 with (fail)
    change Code.wp _ _ _ _ ((w.alloc (.cells (obC o A n c) 24)).alloc (.cells (obC oz none 0 0) 24))
    rw [← HWA.out]
    go_wp2_with (refine wpList_loadOb rfl rfl rfl q0 ?_)
    refine (HV.out _ HRa.out).mono ?_
    rintro e w1 ⟨rfl, hb1⟩
    have q01 := q0.below hb1
    have q11 := q1.below hb1
    have HB1 := bstep hb0 hb1
    clear q0 q1 hb0
    go_wp2_with fail
    refine (HB.out _).mono ?_
    rintro e w2 ⟨rfl, hb2⟩
    have q02 := q01.below hb2
    have q12 := q11.below hb2
    have HB2 := bstep HB1 hb2
    clear q01 q11 HB1 hb1 hb2
    obtain ⟨-, -, -, c3⟩ := q02.ob
    go_wp2_with (refine wpList_loadOb rfl rfl rfl q02 ?_)
    refine (HE.out _).mono ?_
    rintro e w4 ⟨rfl, hb4⟩
    have q04 := q02.below hb4
    have q14 := q12.below hb4
    have HB4 := bstep HB2 hb4
    obtain ⟨-, -, -, c34⟩ := q04.ob
    go_wp2_with fail
    refine (HC.out _ (HR.out.below HB4)).mono ?_
    rintro e w5 ⟨v, rfl, hown, hb5⟩
    have q05 := q04.below hb5
    have q15 := q14.below hb5
    have HB5 := bstep HB4 hb5
    obtain ⟨A5, c5, rfl, h51, h52, -⟩ := hown.form
    unfold maxLen at h52
    unfold OwnSs at hown
    rw [HL.out] at hown h51 ⊢
    have HQL : Hid (∀ A c W, Rd W A (n + 1) (sv o.queue ++ sv [body]) → n + 1 ≤ c → c ≤ maxLen → RdO W ⟨o.base, o.acked, o.summary, o.queue ++ [body]⟩ A (n + 1) c) := Lib.hid (fun A c W hr hnc hc => ⟨hnc, hc, by simp [HL.out], by simpa [sv] using hr⟩)
    go_wp2_with (first
      | (refine wpList_lit1s rfl rfl rfl ?_; intro w6 g6 hg6 hr6 hb6; clear hg6)
      | (refine wpList_appK rfl rfl elemSt rfl (ownsRow_below hown hb6) rfl (m := 1) hr6 (one_sv _) (by omega) (by have := hb6.size; have := hb5.size; omega) ?_; intro v' w7 hown' _ hbel; obtain ⟨A7, c7, rfl, h71, h72, hr7⟩ := ownsRow_form hown'; have HB7 := HB5.trans ((hb6.mono HB5.size).trans (hbel.mono HB4.size)); have q07 := q05.below' ((hb6.mono hb5.size).trans hbel) q04.lt; have q17 := q15.below' ((hb6.mono hb5.size).trans hbel) q14.lt; clear hbel)
      | (refine wpList_set rfl rfl (by kernel_rfl) rfl rfl rfl q07 (cs' := obC ⟨o.base, o.acked, o.summary, o.queue ++ [body]⟩ A7 (n + 1) c7) (by simp) rfl ?_; intro w8 ht8 q08; have q18 := ht8.blk q17 (by omega))
      | (refine wpList_loadOb rfl rfl rfl q08 ?_)
      | (refine wpList_putOb (k := ⟨o.base, o.acked, o.summary, o.queue ++ [body]⟩) rfl rfl rfl rfl q18 ?_; intro w9 ht9 q19))
    have hw4 := q14.lt
    have hne : (Value.slice A7 (n + 1) c7).ownBlock ≠ some w.heap.size := fun e => by have := (World.ownsRow.lt hown' _ e).1; omega
    have hne2 : (Value.slice A7 (n + 1) c7).ownBlock ≠ some (w.heap.size + 1) := fun e => by have := (World.ownsRow.lt hown' _ e).1; omega
    have hfin := ht9.own (ht8.own hown' hne) hne2
    obtain ⟨A', c', hv', -, -, hrf⟩ := ownsRow_form hfin
    injection hv' with hA' _ _
    subst hA'
    exact ret_blk2 rfl rfl rfl q19 aggOb sizeOb ⟨A7, n + 1, c7, rfl, HQL.out _ _ _ (by simpa using hrf) h71 h72, (HB7.trans (ht8.below _ (Nat.le_refl _))).trans (ht9.below _ (by omega)), KA.own hfin (by omega)⟩
end Go.Proofs.Ytecklplohgfohaa
