/-
  Frames in the reference. Conditions: none.
-/
import Derived.Test.YtecklplohgfohaaFc
namespace Go.Proofs.Ytecklplohgfohaa
set_option linter.unusedSimpArgs false
set_option linter.unusedVariables false
open Go.RowKit Link
/-- What the reference's Frames returns. -/
def SentIs (r : List Fr × Int) (w : World) (e : Ending) (w' : World) : Prop := ∃ A n c, e = .returned (.agg (sentC A n c r.2)) ∧ RdF w' A n r.1 ∧ Below w.heap.size w w'
theorem wpList_putSent {w : World} {ops : Array Oper} {rest : List Oper} {o : Oper} {a : Act} {Q : Exit → Act → World → Prop} (hgd : o.guard = none) {x y : Operand} (ho : o.op = .store 40 x y) {g : Nat} (hx : a.eval x = .pointer (some ⟨g, 0, none⟩))
    {A : Option Addr} {n c : Nat} {er : Int} {cs : Array Value} (hy : a.eval y = .agg (sentC A n c er)) (hb : Blk w g 40 cs) (hs : cs.size = 2)
    (h : ∀ w', Turned g w w' → Blk w' g 40 (sentC A n c er) → wpList Try.prog ops Q rest (a.put o.dst undef) w') : wpList Try.prog ops Q (o :: rest) a w :=
  wpList_put (vs := sentC A n c er) hgd ho hx hy hb (by simp [sentC, hs]) (by kernel_rfl) (one_sentC A n c er) h
set_option maxRecDepth 20000 in
set_option maxHeartbeats 4000000 in
theorem refFrames_any (o : Ob) (A : Option Addr) (qn c : Nat) (most : Int) (w : World) (hr : RdO w o A qn c) (ho : WfO o) :
    Calls Try.prog 16 #[obV o A qn c, .int .i64 most] w (SentIs (framesO o most) w) := by
  have HV := Lib.hid (fun W (h : RdO W o A qn c) => refValidOut_any o A qn c W (Nat.le_trans h.nc h.cm) h.len h.rd ho)
  have HE := Lib.hid (fun W => refEnd_any o A qn c W)
  have HVT : Hid (validOut o = true → _) := Lib.hid (fun h => And.intro (validOut_facts h) (framesAll_len h))
  have HR := Lib.hid hr
  have HL := Lib.hid hr.len
  clear ho hr
  unfold framesO
  generalize validOut o = V at *
  obtain ⟨wa, hwa, hb0, q0, q1⟩ : ∃ wa : World, wa = (w.alloc (.cells (obC o A qn c) 24)).alloc (.cells (sentC none 0 0 0) 40) ∧ Below w.heap.size w wa ∧ Blk wa w.heap.size 24 (obC o A qn c) ∧ Blk wa (w.heap.size + 1) 40 (sentC none 0 0 0) :=
    ⟨_, rfl, ((Below.refl w.heap.size w).alloc (Nat.le_refl _) _).alloc (by simp) _, (Blk.new _ _ _).alloc _, Blk.new2 _ _ _ _⟩
  have HWA := Lib.hid hwa
  clear hwa
  have HRa := Lib.hid (HR.out.below hb0)
  cases V
  · simp only [Bool.false_and, Bool.false_eq_true, if_false]
    clear HVT
    go_enter Try.func16, Try.ntmps16
    go_upto_region 1 with (fail)
    change Code.wp _ _ _ _ ((w.alloc (.cells (obC o A qn c) 24)).alloc (.cells (sentC none 0 0 0) 40))
    rw [← HWA.out]
    go_wp2_with ((with_reducible show wpList _ _ _ _ _ _); refine wpList_loadOb rfl rfl rfl q0 ?_)
    refine (HV.out _ HRa.out).mono ?_
    rintro e w1 ⟨rfl, hb⟩
    replace q0 := q0.below hb
    replace q1 := q1.below hb
    replace hb0 := bstep hb0 hb
    clear hb
    have hbd := buildSentE
    go_wp2_with ((with_reducible show wpList _ _ _ _ _ _); refine wpList_putSent (er := 1) rfl rfl rfl rfl q1 rfl ?_; intro w9 ht9 q9)
    exact ret_blk rfl rfl rfl q9 aggSent sizeSent ⟨_, _, _, rfl, RdF.none_ _, hb0.trans (ht9.below _ (by omega))⟩
  by_cases hm : most < 0
  · have d1 : decide (most < 0) = true := by simpa using hm
    have d2 : decide (0 ≤ most) = false := by simp; omega
    simp only [d2, Bool.and_false, Bool.false_eq_true, if_false]
    clear d2 hm HVT
    go_enter Try.func16, Try.ntmps16
    go_upto_region 1 with (fail)
    change Code.wp _ _ _ _ ((w.alloc (.cells (obC o A qn c) 24)).alloc (.cells (sentC none 0 0 0) 40))
    rw [← HWA.out]
    go_wp2_with ((with_reducible show wpList _ _ _ _ _ _); refine wpList_loadOb rfl rfl rfl q0 ?_)
    refine (HV.out _ HRa.out).mono ?_
    rintro e w1 ⟨rfl, hb⟩
    replace q0 := q0.below hb
    replace q1 := q1.below hb
    replace hb0 := bstep hb0 hb
    clear hb
    have hbd := buildSentE
    go_wp2_with ((with_reducible show wpList _ _ _ _ _ _); refine wpList_putSent (er := 1) rfl rfl rfl rfl q1 rfl ?_; intro w9 ht9 q9)
    exact ret_blk rfl rfl rfl q9 aggSent sizeSent ⟨_, _, _, rfl, RdF.none_ _, hb0.trans (ht9.below _ (by omega))⟩
  have d1 : decide (most < 0) = false := by simp; omega
  have d2 : decide (0 ≤ most) = true := by simp; omega
  simp only [d2, Bool.and_true, if_true]
  obtain ⟨⟨⟨hB0, hB1⟩, ⟨hA0, hA1, hA2⟩, hQ⟩, hF⟩ := HVT.out rfl
  clear HVT d2
  obtain ⟨M, rfl⟩ : ∃ M : Nat, most = M := ⟨most.toNat, by omega⟩
  rw [Int.toNat_natCast]
  rw [HL.out] at hQ
  have hw : wrap64 (o.base + qn) = o.base + qn := by unfold wrap64; omega
  rw [hw] at HE
  have hA3 : o.acked ≤ o.base + qn := by unfold Ob.fin at hA2; rw [HL.out] at hA2; exact hA2
  have hnc := HR.out.nc
  have hcm : c ≤ 9223372036854775807 := HR.out.cm
  clear hw hA2 hm
  by_cases hlt : o.acked < o.base
  · have HT := Lib.hid (toOk_lt hlt HL.out)
    have HF1 : Hid ((framesAll o).take 1 = [⟨true, o.base, o.summary⟩]) := Lib.hid (by rw [fa_lt hlt]; rfl)
    generalize framesAll o = L at *
    obtain ⟨b, k, s, q⟩ := o
    simp only at *
    have d0 : decide (k < b) = true := by simpa using hlt
    have hbS : ∀ W, (Instr.build 49 #[(0, .bool true), (1, .int .i64 b), (2, .string s)]).run Try.prog W = .ok (frV ⟨true, b, s⟩) W := fun W => by kernel_rfl
    go_enter Try.func16, Try.ntmps16
    go_upto_region 1 with (fail)
    change Code.wp _ _ _ _ ((w.alloc (.cells (obC ⟨b, k, s, q⟩ A qn c) 24)).alloc (.cells (sentC none 0 0 0) 40))
    rw [← HWA.out]
    go_wp2_with ((with_reducible show wpList _ _ _ _ _ _); refine wpList_loadOb rfl rfl rfl q0 ?_)
    refine (HV.out _ HRa.out).mono ?_
    rintro e w1 ⟨rfl, hb⟩
    replace q0 := q0.below hb
    replace q1 := q1.below hb
    replace hb0 := bstep hb0 hb
    clear hb
    obtain ⟨c0, c1, c2, c3⟩ := q0.ob
    simp only at c0 c1 c2 c3
    have hown0 : w1.ownsRow w1.heap.size 49 3 (.slice none 0 0) 0 [] := World.ownsRow_nil _ _ _ _
    go_upto_region 6 with (first
      | ((with_reducible show wpList _ _ _ _ _ _); refine wpList_lit1f (s := ⟨true, b, s⟩) rfl rfl rfl ?_; intro w5 g5 hg5 hr5 hl5 hb5; clear hg5 hl5; have hown5 := ownsRow_below hown0 hb5)
      | ((with_reducible show wpList _ _ _ _ _ _); refine wpList_appK rfl rfl elemFr rfl hown5 rfl (m := 1) hr5.rd (one_fvs _) (by omega) (by have := hb5.size; omega) ?_; intro v6 w6 hown6 _ hb6; rw [Nat.zero_add, List.nil_append] at hown6; obtain ⟨A6, c6, rfl, -, -, -⟩ := ownsRow_form hown6))
    have hq0 := q0.lt
    have hb : Below w1.heap.size w1 w6 := hb5.trans hb6
    have q0' := q0.below hb
    have HO6 : Hid (w6.ownsRow w1.heap.size 49 3 (.slice A6 1 c6) (toP L 1 0 0).length (fvs (toP L 1 0 0))) := Lib.hid (by
      have e : toP L 1 0 0 = [⟨true, b, s⟩] := by unfold toP; exact HF1.out
      rw [e]; exact hown6)
    clear c0 c1 c2 c3 hown0 hown5 hown6 hr5 hb5 hb6
    obtain ⟨c0, c1, -, -⟩ := q0'.ob
    simp only at c0 c1
    go_wp2_with fail
    go_loopw [5, 6] (fun v5 vi wr => ∃ p : Nat, 0 ≤ p ∧ p ≤ qn ∧ vi = .int .i64 (b + p) ∧ wr.ownsRow w1.heap.size 49 3 v5 (toP L 1 0 p).length (fvs (toP L 1 0 p)) ∧ Below w1.heap.size w1 wr) (fun _ vi _ => (b + qn - intOf vi).toNat)
    case atStart => exact ⟨0, by omega, by omega, by simp, HO6.out, hb⟩
    case round =>
      clear c0 c1 HO6 hb q0' hq0
      obtain ⟨p, hp0, hp, rfl, hown, hbw⟩ := hrel
      replace q0 := q0.below hbw
      replace q1 := q1.below hbw
      have hb1 := bstep hb0 hbw
      obtain ⟨A3, c3', rfl, -, -, -⟩ := ownsRow_form hown
      go_wp2_with ((with_reducible show wpList _ _ _ _ _ _); refine wpList_loadOb rfl rfl rfl q0 ?_)
      refine (HE.out _).mono ?_
      rintro e w4 ⟨rfl, hb⟩
      have hbw4 := bstep hbw hb
      replace q0 := q0.below hb
      replace q1 := q1.below hb
      replace hb1 := bstep hb1 hb
      replace hown := ownsRow_below hown hb
      clear hb hbw
      obtain ⟨c0, -, -, c3⟩ := q0.ob
      simp only at c0 c3
      by_cases hlt2 : p < qn
      · have hpl : p < q.length := by have := HL.out; omega
        obtain ⟨ad, rfl, hc⟩ := (HR.out.rd.below hb1).at_ p (.string q[p]) (by simp [sv, hpl])
        have HST := Lib.hid (HT.out.step p hp0 hpl)
        have HLE : Hid ((toP L 1 0 p).length ≤ 1001) := Lib.hid (by have := HT.out.lt p hp0 hlt2; omega)
        generalize q[p] = x at *
        have hdec : decide (b + (p : Int) < b + qn) = true := by simp; omega
        have hsub : b + (p : Int) - b = (p : Int) := by omega
        have hbd := buildFrM (b + p) x
        go_wp2_with (first
          | ((with_reducible show wpList _ _ _ _ _ _); refine wpList_lit1f (s := ⟨false, b + p, x⟩) rfl rfl rfl ?_; intro w5 g5 hg5 hr5 hl5 hb5; clear hg5 hl5; have hown5 := ownsRow_below hown hb5)
          | ((with_reducible show wpList _ _ _ _ _ _); refine wpList_appK rfl rfl elemFr rfl hown5 rfl (m := 1) hr5.rd (one_fvs _) (by have := HLE.out; omega) (by have := hbw4.size; have := hb5.size; omega) ?_; intro v6 w6 hown6 _ hb6))
        have hbf : Below w1.heap.size w1 w6 := hbw4.trans ((hb5.mono hbw4.size).trans hb6)
        exact ⟨⟨p + 1, by omega, by omega, by first | rfl | (congr 1; omega) | go_num, by rw [← HST.out, List.length_append, fvs_app]; exact hown6, hbf⟩, by simp [intOf]; omega⟩
      · obtain rfl : p = qn := by omega
        rw [HT.out.all] at hown ⊢
        have hdec : decide (b + (p : Int) < b + p) = false := by simp
        have hb0' := hb1
        clear hb0
        have hb0 := hb0'
        clear hb0' hb1 hbw4 c0 c3
        go_upto_region 10 with fail
        have hz1 := q1.lt
        have HFin : Hid (∀ m : Nat, m = min M L.length → L.take m = L.take M) := Lib.hid (fun m h => by subst h; rw [← List.take_eq_take_min])
        obtain ⟨A5, c5, hv5, h51, h52, hr5⟩ := ownsRow_form hown
        injection hv5 with e51 _ e53
        subst e51
        subst e53
        unfold maxLen at h52
        have hlL : L.length ≤ 1001 := hF
        by_cases hML : M ≤ L.length
        · have hmn : min (M : Int) L.length = M := by omega
          have hr6 : RdF w4 A3 M (L.take M) := RdF.take ⟨rfl, hr5⟩ hML
          have hx1 : ¬ ((L.length : Int) < M) := by omega
          have hx2 : (M : Int) ≤ L.length := by omega
          go_wp2_with (first
            | ((with_reducible show wpList _ _ _ _ _ _); refine wpList_lit0f rfl rfl ?_; intro w6 g6 hown6 hb6)
            | ((with_reducible show wpList _ _ _ _ _ _); refine wpList_appK rfl rfl elemFr rfl hown6 rfl (m := M) (by have := (hr6.below hb6).rd; exact this) (one_fvs _) (by omega) (by have := hb6.size; omega) ?_; intro v7 w7 hown7 _ hb7; rw [Nat.zero_add, List.nil_append] at hown7; obtain ⟨A7, c7, rfl, -, -, hr7⟩ := ownsRow_form hown7; have hbd := buildSentL A7 M c7; have hb := hb6.trans hb7; have q17 := q1.below hb)
            | ((with_reducible show wpList _ _ _ _ _ _); refine wpList_putSent (A := A7) (n := M) (c := c7) (er := 0) rfl rfl rfl rfl q17 rfl ?_; intro w9 ht9 q9))
          have hne : (Value.slice A7 M c7).ownBlock ≠ some (w.heap.size + 1) := fun e => by have := (World.ownsRow.lt hown7 _ e).1; omega
          obtain ⟨A', c', hv', -, -, hrf⟩ := ownsRow_form (ht9.own hown7 hne)
          injection hv' with hA' _ _
          subst hA'
          exact ret_blk rfl rfl rfl q9 aggSent sizeSent ⟨A7, M, c7, rfl, ⟨by simp; omega, hrf⟩, (bstep hb0 hb).trans (ht9.below _ (by omega))⟩
        · have hmn : min (M : Int) L.length = L.length := by omega
          have hx1 : (L.length : Int) < M := by omega
          have hx2 : ¬ ((M : Int) ≤ L.length) := by omega
          have HTK : Hid (L.take M = L) := Lib.hid (List.take_of_length_le (by omega))
          go_wp2_with (first
            | ((with_reducible show wpList _ _ _ _ _ _); refine wpList_lit0f rfl rfl ?_; intro w6 g6 hown6 hb6)
            | ((with_reducible show wpList _ _ _ _ _ _); refine wpList_appK rfl rfl elemFr rfl hown6 rfl (m := L.length) (hr5.below hb6) (one_fvs _) (by omega) (by have := hb6.size; omega) ?_; intro v7 w7 hown7 _ hb7; rw [Nat.zero_add, List.nil_append] at hown7; obtain ⟨A7, c7, rfl, -, -, hr7⟩ := ownsRow_form hown7; have hbd := buildSentL A7 L.length c7; have hb := hb6.trans hb7; have q17 := q1.below hb)
            | ((with_reducible show wpList _ _ _ _ _ _); refine wpList_putSent (A := A7) (n := L.length) (c := c7) (er := 0) rfl rfl rfl rfl q17 rfl ?_; intro w9 ht9 q9))
          have hne : (Value.slice A7 L.length c7).ownBlock ≠ some (w.heap.size + 1) := fun e => by have := (World.ownsRow.lt hown7 _ e).1; omega
          obtain ⟨A', c', hv', -, -, hrf⟩ := ownsRow_form (ht9.own hown7 hne)
          injection hv' with hA' _ _
          subst hA'
          exact ret_blk rfl rfl rfl q9 aggSent sizeSent ⟨A7, L.length, c7, rfl, by show RdF w9 A7 L.length (L.take M); rw [HTK.out]; exact ⟨rfl, hrf⟩, (bstep hb0 hb).trans (ht9.below _ (by omega))⟩
  · obtain ⟨d, hd⟩ : ∃ d : Nat, o.acked = o.base + d := ⟨(o.acked - o.base).toNat, by omega⟩
    have hdq : d ≤ qn := by omega
    have HT := Lib.hid (toOk_ge hlt HL.out hdq hd)
    generalize framesAll o = L at *
    obtain ⟨b, k, s, q⟩ := o
    simp only at *
    have HK := Lib.hid hd
    have d0 : decide (k < b) = false := by simpa using hlt
    clear hd
    have HO6 : Hid (∀ W : World, W.ownsRow W.heap.size 49 3 (.slice none 0 0) (toP L 0 d d).length (fvs (toP L 0 d d))) := Lib.hid (fun W => by
      have e : toP L 0 d d = [] := by unfold toP; simp
      rw [e]; exact World.ownsRow_nil _ _ _ _)
    go_enter Try.func16, Try.ntmps16
    go_upto_region 1 with (fail)
    change Code.wp _ _ _ _ ((w.alloc (.cells (obC ⟨b, k, s, q⟩ A qn c) 24)).alloc (.cells (sentC none 0 0 0) 40))
    rw [← HWA.out]
    go_wp2_with ((with_reducible show wpList _ _ _ _ _ _); refine wpList_loadOb rfl rfl rfl q0 ?_)
    refine (HV.out _ HRa.out).mono ?_
    rintro e w1 ⟨rfl, hb⟩
    replace q0 := q0.below hb
    replace q1 := q1.below hb
    replace hb0 := bstep hb0 hb
    clear hb
    obtain ⟨c0, c1, c2, c3⟩ := q0.ob
    simp only at c0 c1 c2 c3
    go_wp2_with fail
    go_loopw [5, 6] (fun v5 vi wr => ∃ p : Nat, d ≤ p ∧ p ≤ qn ∧ vi = .int .i64 (b + p) ∧ wr.ownsRow w1.heap.size 49 3 v5 (toP L 0 d p).length (fvs (toP L 0 d p)) ∧ Below w1.heap.size w1 wr) (fun _ vi _ => (b + qn - intOf vi).toNat)
    case atStart => exact ⟨d, Nat.le_refl _, hdq, by rw [HK.out], HO6.out _, Below.refl _ _⟩
    case round =>
      clear c0 c1 c2 c3 HO6
      obtain ⟨p, hp0, hp, rfl, hown, hbw⟩ := hrel
      replace q0 := q0.below hbw
      replace q1 := q1.below hbw
      have hb1 := bstep hb0 hbw
      obtain ⟨A3, c3', rfl, -, -, -⟩ := ownsRow_form hown
      go_wp2_with ((with_reducible show wpList _ _ _ _ _ _); refine wpList_loadOb rfl rfl rfl q0 ?_)
      refine (HE.out _).mono ?_
      rintro e w4 ⟨rfl, hb⟩
      have hbw4 := bstep hbw hb
      replace q0 := q0.below hb
      replace q1 := q1.below hb
      replace hb1 := bstep hb1 hb
      replace hown := ownsRow_below hown hb
      clear hb hbw
      obtain ⟨c0, -, -, c3⟩ := q0.ob
      simp only at c0 c3
      by_cases hlt2 : p < qn
      · have hpl : p < q.length := by have := HL.out; omega
        obtain ⟨ad, rfl, hc⟩ := (HR.out.rd.below hb1).at_ p (.string q[p]) (by simp [sv, hpl])
        have HST := Lib.hid (HT.out.step p hp0 hpl)
        have HLE : Hid ((toP L 0 d p).length ≤ 1001) := Lib.hid (by have := HT.out.lt p hp0 hlt2; omega)
        generalize q[p] = x at *
        have hdec : decide (b + (p : Int) < b + qn) = true := by simp; omega
        have hsub : b + (p : Int) - b = (p : Int) := by omega
        have hbd := buildFrM (b + p) x
        go_wp2_with (first
          | ((with_reducible show wpList _ _ _ _ _ _); refine wpList_lit1f (s := ⟨false, b + p, x⟩) rfl rfl rfl ?_; intro w5 g5 hg5 hr5 hl5 hb5; clear hg5 hl5; have hown5 := ownsRow_below hown hb5)
          | ((with_reducible show wpList _ _ _ _ _ _); refine wpList_appK rfl rfl elemFr rfl hown5 rfl (m := 1) hr5.rd (one_fvs _) (by have := HLE.out; omega) (by have := hbw4.size; have := hb5.size; omega) ?_; intro v6 w6 hown6 _ hb6))
        have hbf : Below w1.heap.size w1 w6 := hbw4.trans ((hb5.mono hbw4.size).trans hb6)
        exact ⟨⟨p + 1, by omega, by omega, by first | rfl | (congr 1; omega) | go_num, by rw [← HST.out, List.length_append, fvs_app]; exact hown6, hbf⟩, by simp [intOf]; omega⟩
      · obtain rfl : p = qn := by omega
        rw [HT.out.all] at hown ⊢
        have hdec : decide (b + (p : Int) < b + p) = false := by simp
        have hb0' := hb1
        clear hb0
        have hb0 := hb0'
        clear hb0' hb1 hbw4 c0 c3
        go_upto_region 10 with fail
        have hz1 := q1.lt
        have HFin : Hid (∀ m : Nat, m = min M L.length → L.take m = L.take M) := Lib.hid (fun m h => by subst h; rw [← List.take_eq_take_min])
        obtain ⟨A5, c5, hv5, h51, h52, hr5⟩ := ownsRow_form hown
        injection hv5 with e51 _ e53
        subst e51
        subst e53
        unfold maxLen at h52
        have hlL : L.length ≤ 1001 := hF
        by_cases hML : M ≤ L.length
        · have hmn : min (M : Int) L.length = M := by omega
          have hr6 : RdF w4 A3 M (L.take M) := RdF.take ⟨rfl, hr5⟩ hML
          have hx1 : ¬ ((L.length : Int) < M) := by omega
          have hx2 : (M : Int) ≤ L.length := by omega
          go_wp2_with (first
            | ((with_reducible show wpList _ _ _ _ _ _); refine wpList_lit0f rfl rfl ?_; intro w6 g6 hown6 hb6)
            | ((with_reducible show wpList _ _ _ _ _ _); refine wpList_appK rfl rfl elemFr rfl hown6 rfl (m := M) (by have := (hr6.below hb6).rd; exact this) (one_fvs _) (by omega) (by have := hb6.size; omega) ?_; intro v7 w7 hown7 _ hb7; rw [Nat.zero_add, List.nil_append] at hown7; obtain ⟨A7, c7, rfl, -, -, hr7⟩ := ownsRow_form hown7; have hbd := buildSentL A7 M c7; have hb := hb6.trans hb7; have q17 := q1.below hb)
            | ((with_reducible show wpList _ _ _ _ _ _); refine wpList_putSent (A := A7) (n := M) (c := c7) (er := 0) rfl rfl rfl rfl q17 rfl ?_; intro w9 ht9 q9))
          have hne : (Value.slice A7 M c7).ownBlock ≠ some (w.heap.size + 1) := fun e => by have := (World.ownsRow.lt hown7 _ e).1; omega
          obtain ⟨A', c', hv', -, -, hrf⟩ := ownsRow_form (ht9.own hown7 hne)
          injection hv' with hA' _ _
          subst hA'
          exact ret_blk rfl rfl rfl q9 aggSent sizeSent ⟨A7, M, c7, rfl, ⟨by simp; omega, hrf⟩, (bstep hb0 hb).trans (ht9.below _ (by omega))⟩
        · have hmn : min (M : Int) L.length = L.length := by omega
          have hx1 : (L.length : Int) < M := by omega
          have hx2 : ¬ ((M : Int) ≤ L.length) := by omega
          have HTK : Hid (L.take M = L) := Lib.hid (List.take_of_length_le (by omega))
          go_wp2_with (first
            | ((with_reducible show wpList _ _ _ _ _ _); refine wpList_lit0f rfl rfl ?_; intro w6 g6 hown6 hb6)
            | ((with_reducible show wpList _ _ _ _ _ _); refine wpList_appK rfl rfl elemFr rfl hown6 rfl (m := L.length) (hr5.below hb6) (one_fvs _) (by omega) (by have := hb6.size; omega) ?_; intro v7 w7 hown7 _ hb7; rw [Nat.zero_add, List.nil_append] at hown7; obtain ⟨A7, c7, rfl, -, -, hr7⟩ := ownsRow_form hown7; have hbd := buildSentL A7 L.length c7; have hb := hb6.trans hb7; have q17 := q1.below hb)
            | ((with_reducible show wpList _ _ _ _ _ _); refine wpList_putSent (A := A7) (n := L.length) (c := c7) (er := 0) rfl rfl rfl rfl q17 rfl ?_; intro w9 ht9 q9))
          have hne : (Value.slice A7 L.length c7).ownBlock ≠ some (w.heap.size + 1) := fun e => by have := (World.ownsRow.lt hown7 _ e).1; omega
          obtain ⟨A', c', hv', -, -, hrf⟩ := ownsRow_form (ht9.own hown7 hne)
          injection hv' with hA' _ _
          subst hA'
          exact ret_blk rfl rfl rfl q9 aggSent sizeSent ⟨A7, L.length, c7, rfl, by show RdF w9 A7 L.length (L.take M); rw [HTK.out]; exact ⟨rfl, hrf⟩, (bstep hb0 hb).trans (ht9.below _ (by omega))⟩
end Go.Proofs.Ytecklplohgfohaa
