/-
  The law ProjectAxesAreBoxes, walked. Condition: the table of constants reads as the program lays it.
-/
import Derived.Test.YtcehaojohfbfkaaDoorP9
namespace Go.Proofs.YtcehaojohfbfkaaDoor
set_option linter.unusedSimpArgs false
set_option linter.unusedVariables false
open Go.RowKit Proj
set_option maxRecDepth 20000 in
set_option maxHeartbeats 8000000 in
theorem walkProjectAxesAreBoxes (M : Int) (R : Option Addr) (nr cr : Nat) (rs : List (Int × Int)) (B : Option Addr) (m d : Nat) (q : List Int) (w : World)
    (f0 : (Lit.int .i64 M).wf = true) (x2 : nr ≤ cr) (y2 : cr ≤ maxLen) (hr : RdP w R nr rs) (e2 : ∀ r ∈ rs, (Lit.int .i64 r.1).wf = true ∧ (Lit.int .i64 r.2).wf = true)
    (x3 : m ≤ d) (y3 : d ≤ maxLen) (z3 : q.length = m) (hb : Rd w B m (iv q)) (e3 : ∀ z ∈ q, (Lit.int .i64 z).wf = true) (hg : GCon w) :
    Calls Tryd.prog 9 #[.int .i64 M, .slice R nr cr, .slice B m d] w fun e w' => e = .returned (.bool true) ∧ Below w.heap.size w w' := by
  have hnr := Nat.le_trans x2 y2
  have hm := Nat.le_trans x3 y3
  clear f0 e2 e3 x2 y2 x3 y3 z3
  have HLr := Lib.hid hr.len
  have HLq := Lib.hid (show q.length = m by have := hb.len; simpa using this)
  have HG := Lib.hid hg
  clear hg
  simp only [maxLen] at hnr hm
  have H1 := Lib.hid (refValid_any B m d q w (by omega) hb)
  have H3 := Lib.hid (ranges_any R nr cr rs m w hr (by omega))
  have H4 := Lib.hid (fun W => refMetric_any M W)
  by_cases h1 : vecB q = true
  case neg =>
    have h1' : vecB q = false := by simpa using h1
    rw [h1'] at H1
    go_enter Tryd.func9, Tryd.ntmps9
    go_wp2_with fail
    refine H1.out.mono ?_
    rintro e w1 ⟨rfl, rfl⟩
    go_wp2_with fail
    refine (sanity_any _ HG.out).mono ?_
    rintro e w1 ⟨rfl, hb1⟩
    go_wp2_with fail
    go_ret
    exact ⟨rfl, hb1⟩
  rw [h1] at H1
  by_cases c8 : 8 < (m : Int)
  · go_enter Tryd.func9, Tryd.ntmps9
    go_wp2_with fail
    refine H1.out.mono ?_
    rintro e w1 ⟨rfl, rfl⟩
    go_wp2_with fail
    refine (sanity_any _ HG.out).mono ?_
    rintro e w1 ⟨rfl, hb1⟩
    go_wp2_with fail
    go_ret
    exact ⟨rfl, hb1⟩
  go_enter Tryd.func9, Tryd.ntmps9
  go_wp2_with fail
  refine H1.out.mono ?_
  rintro e w1 ⟨rfl, rfl⟩
  go_wp2_with fail
  refine H3.out.mono ?_
  rintro e w1 ⟨rfl, hb1⟩
  cases h3 : rangesB rs m
  · go_wp2_with fail
    refine (sanity_any _ (HG.out.below hb1)).mono ?_
    rintro e w2 ⟨rfl, hb2⟩
    go_wp2_with fail
    go_ret
    exact ⟨rfl, bstep hb1 hb2⟩
  go_wp2_with fail
  refine (H4.out _).mono ?_
  rintro e w2 ⟨rfl, rfl⟩
  cases h4 : decide (1 ≤ M ∧ M ≤ 3)
  · go_wp2_with fail
    refine (sanity_any _ (HG.out.below hb1)).mono ?_
    rintro e w2 ⟨rfl, hb2⟩
    go_wp2_with fail
    go_ret
    exact ⟨rfl, bstep hb1 hb2⟩
  have HM := Lib.hid (of_decide_eq_true h4)
  have HRY := Lib.hid (rangesB_yes h3)
  have HQ := Lib.hid (vec_le h1)
  have HQ1 := Lib.hid (vecB_yes h1).1
  obtain rfl : nr = m := by have := HRY.out.1; rw [HLr.out] at this; exact this
  have hm8 : nr ≤ 8 := by omega
  have hm1 : 0 < nr := by have := HQ1.out; rw [HLq.out] at this; exact this
  have HLL := Lib.hid (show rs.length = q.length by rw [HLr.out, HLq.out])
  clear H1 H3 H4 h1 h3 h4 c8 hnr hm
  go_wp2_with fail
  go_loopw [7, 8, 9, 10, 36] (fun va vn _ _ j wr => ∃ k : Nat, k ≤ nr ∧ j = .int .i64 k ∧ Below w.heap.size w wr ∧ Axes wr w.heap.size va vn (axesTo nr k) ((near rs q).take k) ∧ Hid (∀ r ∈ rs.take k, -1000 ≤ r.1 ∧ r.2 ≤ 1000)) (fun _ _ _ _ j _ => nr - (intOf j).toNat)
  case atStart => exact ⟨0, Nat.zero_le _, rfl, hb1, Axes.nil _ _, Lib.hid (by simp)⟩
  case round =>
    clear hb1
    obtain ⟨k, hk, rfl, hbw, hax, hpre⟩ := hrel
    by_cases hlt : k < nr
    · obtain ⟨rd, rfl, hr0, hr1⟩ := hr.get k (by have := HLr.out; omega)
      obtain ⟨qd, rfl, hq0⟩ := hb.int hlt HLq.out
      have HTr := Lib.hid (List.take_succ_eq_append_getElem (show k < rs.length by have := HLr.out; omega))
      have HN2 := Lib.hid (near_step rs q k (by have := HLr.out; omega) (by have := HLq.out; omega) HLL.out)
      have HN1 := Lib.hid (axesTo_succ nr k)
      have HM2 := Lib.hid (HRY.out.2.2 _ (List.getElem_mem (show k < rs.length by have := HLr.out; omega)))
      generalize rs[k]'(by have := HLr.out; omega) = r at *
      generalize q[k]'(by have := HLq.out; omega) = x at *
      obtain ⟨lo, hi⟩ := r
      dsimp only at *
      have hr0w := cell_below hbw hr0
      have hr1w := cell_below hbw hr1
      by_cases c1 : lo < -1000
      · go_wp2_with fail
        refine (sanity_any _ (HG.out.below hbw)).mono ?_
        rintro e w3 ⟨rfl, hb3⟩
        go_wp2_with fail
        go_ret
        exact ⟨rfl, bstep hbw hb3⟩
      by_cases c2 : 1000 < hi
      · go_wp2_with fail
        refine (sanity_any _ (HG.out.below hbw)).mono ?_
        rintro e w3 ⟨rfl, hb3⟩
        go_wp2_with fail
        go_ret
        exact ⟨rfl, bstep hbw hb3⟩
      have HNp : Hid (∀ r ∈ rs.take (k + 1), -1000 ≤ r.1 ∧ r.2 ≤ 1000) := Lib.hid (by
        rw [HTr.out]
        intro z hz
        rcases List.mem_append.1 hz with hz | hz
        · exact hpre.out z hz
        · simp at hz; subst hz; exact ⟨by simp; omega, by simp; omega⟩)
      have HK1 : Hid ((axesTo nr k).length ≤ 1000) := Lib.hid (by simp [axesTo]; omega)
      have HK2 : Hid (((near rs q).take k).length ≤ 1000) := Lib.hid (by rw [List.length_take]; omega)
      obtain ⟨i0, hi0, hz0, hz1, hz2⟩ := info_parts (show (Tryd.prog.info? 3).map (fun i => (i.zero, i.size, i.bytes)) = some (some (.int .i64 0), 1, 8) by kernel_rfl)
      have hap : ∀ g : Nat, g = wr.heap.size → (∀ c, (Value.slice (some ⟨g, 0, none⟩) nr c).ownBlock = none ∨ (Value.slice (some ⟨g, 0, none⟩) nr c).ownBlock ≠ u8.ownBlock) := by
        intro g hg c
        refine .inr fun hc => ?_
        have := (World.ownsRow.lt hax.point g (by rw [← hc]; rfl)).2
        omega
      have HAP := Lib.hid hap
      clear hap
      go_wp2_with (first
        | (at_make; refine wpList_make_full _ rfl _ _ 24 rfl wr.heap.size 3 i0 (.int .i64 0) 1 (by kernel_rfl) hi0 hz0 hz1 _ _ _ _ nr rfl rfl rfl rfl (by rw [hz2]; omega) (by unfold maxLen; omega) (Nat.le_refl _) ?_
           intro w1 hln hgrow
           have hb1 : Below wr.heap.size wr w1 := (Below.refl _ wr).grown hgrow (Nat.le_refl _) (fun k hk => by cases hk)
           clear hgrow
           have hz : (madeCells (Value.int .i64 0).cells (nr * 1)).toList = iv (List.replicate nr 0) := by
             rw [Nat.mul_one]; show (madeCells #[Value.int .i64 0] nr).toList = _; rw [toList_madeCells_one]; simp [iv]
           rw [hz] at hln
           clear hz
           obtain ⟨g, hg⟩ : ∃ g, g = wr.heap.size := ⟨_, rfl⟩
           rw [← hg] at hln ⊢
           have Hg := Lib.hid hg
           clear hg)
        | (refine wpList_storeOwn (j := k) (v := .int .i64 1) rfl rfl (by kernel_rfl) rfl rfl rfl hln (by omega) ?_; intro w2 hln2 hb2))
      clear hi0 hz0 hz1 hz2 hln
      rw [iv_set] at hln2
      have hB2 : Below wr.heap.size wr w2 := hb1.trans (hb2.mono (by rw [Hg.out]; exact Nat.le_refl _))
      replace hax := hax.below hB2
      have hbw2 := hbw.trans (hB2.mono hbw.size)
      have hu : Own w2 w.heap.size 3 (.slice (some ⟨g, 0, none⟩) nr nr) (iv (axis nr k)) := Own.lower (B := g) (by
        unfold Own
        rw [show (iv (axis nr k)).length = nr by simp [axis]]
        exact hln2) (by rw [Hg.out]; exact hbw.size)
      have hap := HAP.out g Hg.out nr
      clear hb1 hb2 hB2 hln2 c1 c2 hr0w hr1w
      have hS0 : Below w2.heap.size w2 w2.drew := (Below.refl _ w2).drew
      replace hax := hax.below hS0
      replace hu := hu.below hS0
      replace hbw2 := hbw2.trans (hS0.mono hbw2.size)
      clear hS0
      refine wp_region_TB (S := Below (w).heap.size (w)) 24 (by kernel_rfl) ?_
      -- region 12: 25 operations, tail from 24
      refine WpT.take (i := 0) rfl (by kernel_rfl) (fun _ _ _ h => h) (.inl ⟨by rfl, fun w hSw => by clear hSw; go_simp; (try go_bits); (try rw [if_pos (by omega)]); (try with_reducible rfl)⟩) (hbw2) ?_
      try simp only [Act.put, List.setIfInBounds_toArray, List.set_cons_zero, List.set_cons_succ]
      refine WpT.take (i := 1) rfl (by kernel_rfl) (fun _ _ _ h => h) (.inl ⟨by rfl, fun w hSw => by clear hSw; go_simp; (try go_bits); (try rw [if_pos (by omega)]); (try with_reducible rfl)⟩) (hbw2) ?_
      try simp only [Act.put, List.setIfInBounds_toArray, List.set_cons_zero, List.set_cons_succ]
      refine WpT.take (i := 4) rfl (by kernel_rfl) (fun _ _ _ h => h) (.inl ⟨by rfl, fun w hSw => by clear hSw; go_simp; (try go_bits); (try rw [if_pos (by omega)]); (try with_reducible rfl)⟩) (hbw2) ?_
      try simp only [Act.put, List.setIfInBounds_toArray, List.set_cons_zero, List.set_cons_succ]
      refine WpT.take (i := 5) rfl (by kernel_rfl) (fun _ _ _ h => h) (.inl ⟨by rfl, fun w hSw => by clear hSw; go_simp; (try go_bits); (try rw [if_pos (by omega)]); (try with_reducible rfl)⟩) (hbw2) ?_
      try simp only [Act.put, List.setIfInBounds_toArray, List.set_cons_zero, List.set_cons_succ]
      refine WpT.take (i := 6) rfl (by kernel_rfl) (fun _ _ _ h => h) (.inl ⟨by rfl, fun w hSw => by clear hSw; go_simp; (try go_bits); (try rw [if_pos (by omega)]); (try with_reducible rfl)⟩) (hbw2) ?_
      try simp only [Act.put, List.setIfInBounds_toArray, List.set_cons_zero, List.set_cons_succ]
      refine WpT.take (i := 7) rfl (by kernel_rfl) (fun _ _ _ h => h) (.inl ⟨by rfl, fun w hSw => by clear hSw; go_simp; (try go_bits); (try rw [if_pos (by omega)]); (try with_reducible rfl)⟩) (hbw2) ?_
      try simp only [Act.put, List.setIfInBounds_toArray, List.set_cons_zero, List.set_cons_succ]
      refine WpT.take (i := 8) rfl (by kernel_rfl) (fun _ _ _ h => h) (yields_load rfl rfl rfl (by kernel_rfl) (by assumption)) (hbw2) ?_
      try simp only [Act.put, List.setIfInBounds_toArray, List.set_cons_zero, List.set_cons_succ]
      refine WpT.take (i := 9) rfl (by kernel_rfl) (fun _ _ _ h => h) (.inl ⟨by rfl, fun w hSw => by clear hSw; go_simp; (try go_bits); (try rw [if_pos (by omega)]); (try with_reducible rfl)⟩) (hbw2) ?_
      try simp only [Act.put, List.setIfInBounds_toArray, List.set_cons_zero, List.set_cons_succ]
      refine WpT.take (i := 10) rfl (by kernel_rfl) (fun _ _ _ h => h) (.inl ⟨by rfl, fun w hSw => by clear hSw; go_simp; (try go_bits); (try rw [if_pos (by omega)]); (try with_reducible rfl)⟩) (hbw2) ?_
      try simp only [Act.put, List.setIfInBounds_toArray, List.set_cons_zero, List.set_cons_succ]
      refine WpT.take (i := 11) rfl (by kernel_rfl) (fun _ _ _ h => h) (.inl ⟨by rfl, fun w hSw => by clear hSw; go_simp; (try go_bits); (try rw [if_pos (by omega)]); (try with_reducible rfl)⟩) (hbw2) ?_
      try simp only [Act.put, List.setIfInBounds_toArray, List.set_cons_zero, List.set_cons_succ]
      refine WpT.take (i := 12) rfl (by kernel_rfl) (fun _ _ _ h => h) (.inl ⟨by rfl, fun w hSw => by clear hSw; go_simp; (try go_bits); (try rw [if_pos (by omega)]); (try with_reducible rfl)⟩) (hbw2) ?_
      try simp only [Act.put, List.setIfInBounds_toArray, List.set_cons_zero, List.set_cons_succ]
      refine WpT.take (i := 13) rfl (by kernel_rfl) (fun _ _ _ h => h) (yields_load rfl rfl rfl (by kernel_rfl) (by assumption)) (hbw2) ?_
      try simp only [Act.put, List.setIfInBounds_toArray, List.set_cons_zero, List.set_cons_succ]
      refine WpT.take (i := 14) rfl (by kernel_rfl) (fun _ _ _ h => h) (yields_max2 rfl rfl rfl rfl) (hbw2) ?_
      try simp only [Act.put, List.setIfInBounds_toArray, List.set_cons_zero, List.set_cons_succ]
      refine WpT.take (i := 15) rfl (by kernel_rfl) (fun _ _ _ h => h) (.inl ⟨by rfl, fun w hSw => by clear hSw; go_simp; (try go_bits); (try rw [if_pos (by omega)]); (try with_reducible rfl)⟩) (hbw2) ?_
      try simp only [Act.put, List.setIfInBounds_toArray, List.set_cons_zero, List.set_cons_succ]
      refine WpT.take (i := 16) rfl (by kernel_rfl) (fun _ _ _ h => h) (.inl ⟨by rfl, fun w hSw => by clear hSw; go_simp; (try go_bits); (try rw [if_pos (by omega)]); (try with_reducible rfl)⟩) (hbw2) ?_
      try simp only [Act.put, List.setIfInBounds_toArray, List.set_cons_zero, List.set_cons_succ]
      refine WpT.take (i := 17) rfl (by kernel_rfl) (fun _ _ _ h => h) (.inl ⟨by rfl, fun w hSw => by clear hSw; go_simp; (try go_bits); (try rw [if_pos (by omega)]); (try with_reducible rfl)⟩) (hbw2) ?_
      try simp only [Act.put, List.setIfInBounds_toArray, List.set_cons_zero, List.set_cons_succ]
      refine WpT.take (i := 18) rfl (by kernel_rfl) (fun _ _ _ h => h) (.inl ⟨by rfl, fun w hSw => by clear hSw; go_simp; (try go_bits); (try rw [if_pos (by omega)]); (try with_reducible rfl)⟩) (hbw2) ?_
      try simp only [Act.put, List.setIfInBounds_toArray, List.set_cons_zero, List.set_cons_succ]
      refine WpT.take (i := 19) rfl (by kernel_rfl) (fun _ _ _ h => h) (yields_load rfl rfl rfl (by kernel_rfl) (by assumption)) (hbw2) ?_
      try simp only [Act.put, List.setIfInBounds_toArray, List.set_cons_zero, List.set_cons_succ]
      refine WpT.take (i := 20) rfl (by kernel_rfl) (fun _ _ _ h => h) (yields_min2 rfl rfl rfl rfl) (hbw2) ?_
      try simp only [Act.put, List.setIfInBounds_toArray, List.set_cons_zero, List.set_cons_succ]
      refine WpT.fork (i := 2) (j := 21) rfl rfl (by kernel_rfl) (fun K hK => ?_) (fun K hK => ?_)
      · rw [if_pos (by rfl)]; refine wp_litB (cs := #[_]) rfl rfl (build1_R _ rfl _) ?_; intro wA gA hBR hbA; replace hax := hax.below hbA; (try replace hu := hu.below hbA); (try replace hBI := hBI.below hbA); replace hbw2 := hbw2.trans (hbA.mono hbw2.size); clear hbA
        refine hK _ _ (hbw2) ?_; clear hK K; try simp only [Act.put, List.setIfInBounds_toArray, List.set_cons_zero, List.set_cons_succ]
        refine WpT.fork (i := 3) (j := 21) rfl rfl (by kernel_rfl) (fun K hK => ?_) (fun K hK => ?_)
        · rw [if_pos (by rfl)]; refine wp_axis rfl rfl hax hu hap rfl hBR (by have := HK1.out; omega) hbw2.size ?_; intro vC wC haxC hbC hkbC; clear hax; have hax := haxC; (try replace hBI := hkbC _ _ _ (by decide) hBI); replace hbw2 := hbw2.trans hbC; clear hbC hkbC hBR hu hap haxC
          refine hK _ _ (hbw2) ?_; clear hK K; try simp only [Act.put, List.setIfInBounds_toArray, List.set_cons_zero, List.set_cons_succ]
          refine WpT.one (i := 21) rfl (by kernel_rfl) (fun K hK => ?_)
          rw [if_pos (by rfl)]; refine wp_litB (cs := #[.int .i64 (min (max x lo) hi)]) rfl rfl (build1_I _ rfl _) ?_; intro wB gB hBI hbB; replace hax := hax.below hbB; (try replace hu := hu.below hbB); (try replace hBR := hBR.below hbB); replace hbw2 := hbw2.trans (hbB.mono hbw2.size); clear hbB
          refine hK _ _ (hbw2) ?_; clear hK K; try simp only [Act.put, List.setIfInBounds_toArray, List.set_cons_zero, List.set_cons_succ]
          refine WpT.one (i := 22) rfl (by kernel_rfl) (fun K hK => ?_)
          rw [if_pos (by rfl)]; refine wp_point (y := min (max x lo) hi) rfl rfl hax rfl hBI (by have := HK2.out; omega) hbw2.size ?_; intro vD wD haxD hbD hkbD hkD; (try (have hz := hkD _ _ hu hap; replace hu := hz.1; replace hap := hz.2; clear hz)); (try replace hBR := hkbD _ _ _ (by decide) hBR); clear hax; have hax := haxD; replace hbw2 := hbw2.trans hbD; clear hbD hkbD hkD hBI haxD
          refine hK _ _ (hbw2) ?_; clear hK K; try simp only [Act.put, List.setIfInBounds_toArray, List.set_cons_zero, List.set_cons_succ]
          refine WpT.one (i := 23) rfl (by kernel_rfl) (fun K hK => ?_)
          go_simp; (try go_bits)
          refine hK _ _ (hbw2) ?_; clear hK K; try simp only [Act.put, List.setIfInBounds_toArray, List.set_cons_zero, List.set_cons_succ]
          refine WpT.tail (i := 24) rfl (by kernel_rfl) (by kernel_rfl) (fun K hK => ?_)
          go_simp; (try go_bits)
          refine hK _ _ ?_; clear hK K; try simp only [Act.put, List.setIfInBounds_toArray, List.set_cons_zero, List.set_cons_succ]
          refine WpT.done (by kernel_rfl) ?_ _
          go_wp2_with fail; rw [← HN1.out, ← HN2.out] at hax; exact ⟨⟨k + 1, by omega, by go_num, hbw2, hax, HNp⟩, by simp [intOf]; omega⟩
        · rw [if_pos (by rfl)]; refine wp_litB (cs := #[.int .i64 (min (max x lo) hi)]) rfl rfl (build1_I _ rfl _) ?_; intro wB gB hBI hbB; replace hax := hax.below hbB; (try replace hu := hu.below hbB); (try replace hBR := hBR.below hbB); replace hbw2 := hbw2.trans (hbB.mono hbw2.size); clear hbB
          refine hK _ _ (hbw2) ?_; clear hK K; try simp only [Act.put, List.setIfInBounds_toArray, List.set_cons_zero, List.set_cons_succ]
          refine WpT.one (i := 3) rfl (by kernel_rfl) (fun K hK => ?_)
          rw [if_pos (by rfl)]; refine wp_axis rfl rfl hax hu hap rfl hBR (by have := HK1.out; omega) hbw2.size ?_; intro vC wC haxC hbC hkbC; clear hax; have hax := haxC; (try replace hBI := hkbC _ _ _ (by decide) hBI); replace hbw2 := hbw2.trans hbC; clear hbC hkbC hBR hu hap haxC
          refine hK _ _ (hbw2) ?_; clear hK K; try simp only [Act.put, List.setIfInBounds_toArray, List.set_cons_zero, List.set_cons_succ]
          refine WpT.one (i := 22) rfl (by kernel_rfl) (fun K hK => ?_)
          rw [if_pos (by rfl)]; refine wp_point (y := min (max x lo) hi) rfl rfl hax rfl hBI (by have := HK2.out; omega) hbw2.size ?_; intro vD wD haxD hbD hkbD hkD; (try (have hz := hkD _ _ hu hap; replace hu := hz.1; replace hap := hz.2; clear hz)); (try replace hBR := hkbD _ _ _ (by decide) hBR); clear hax; have hax := haxD; replace hbw2 := hbw2.trans hbD; clear hbD hkbD hkD hBI haxD
          refine hK _ _ (hbw2) ?_; clear hK K; try simp only [Act.put, List.setIfInBounds_toArray, List.set_cons_zero, List.set_cons_succ]
          refine WpT.one (i := 23) rfl (by kernel_rfl) (fun K hK => ?_)
          go_simp; (try go_bits)
          refine hK _ _ (hbw2) ?_; clear hK K; try simp only [Act.put, List.setIfInBounds_toArray, List.set_cons_zero, List.set_cons_succ]
          refine WpT.tail (i := 24) rfl (by kernel_rfl) (by kernel_rfl) (fun K hK => ?_)
          go_simp; (try go_bits)
          refine hK _ _ ?_; clear hK K; try simp only [Act.put, List.setIfInBounds_toArray, List.set_cons_zero, List.set_cons_succ]
          refine WpT.done (by kernel_rfl) ?_ _
          go_wp2_with fail; rw [← HN1.out, ← HN2.out] at hax; exact ⟨⟨k + 1, by omega, by go_num, hbw2, hax, HNp⟩, by simp [intOf]; omega⟩
      · rw [if_pos (by rfl)]; refine wp_litB (cs := #[.int .i64 (min (max x lo) hi)]) rfl rfl (build1_I _ rfl _) ?_; intro wB gB hBI hbB; replace hax := hax.below hbB; (try replace hu := hu.below hbB); (try replace hBR := hBR.below hbB); replace hbw2 := hbw2.trans (hbB.mono hbw2.size); clear hbB
        refine hK _ _ (hbw2) ?_; clear hK K; try simp only [Act.put, List.setIfInBounds_toArray, List.set_cons_zero, List.set_cons_succ]
        refine WpT.one (i := 2) rfl (by kernel_rfl) (fun K hK => ?_)
        rw [if_pos (by rfl)]; refine wp_litB (cs := #[_]) rfl rfl (build1_R _ rfl _) ?_; intro wA gA hBR hbA; replace hax := hax.below hbA; (try replace hu := hu.below hbA); (try replace hBI := hBI.below hbA); replace hbw2 := hbw2.trans (hbA.mono hbw2.size); clear hbA
        refine hK _ _ (hbw2) ?_; clear hK K; try simp only [Act.put, List.setIfInBounds_toArray, List.set_cons_zero, List.set_cons_succ]
        refine WpT.one (i := 3) rfl (by kernel_rfl) (fun K hK => ?_)
        rw [if_pos (by rfl)]; refine wp_axis rfl rfl hax hu hap rfl hBR (by have := HK1.out; omega) hbw2.size ?_; intro vC wC haxC hbC hkbC; clear hax; have hax := haxC; (try replace hBI := hkbC _ _ _ (by decide) hBI); replace hbw2 := hbw2.trans hbC; clear hbC hkbC hBR hu hap haxC
        refine hK _ _ (hbw2) ?_; clear hK K; try simp only [Act.put, List.setIfInBounds_toArray, List.set_cons_zero, List.set_cons_succ]
        refine WpT.one (i := 22) rfl (by kernel_rfl) (fun K hK => ?_)
        rw [if_pos (by rfl)]; refine wp_point (y := min (max x lo) hi) rfl rfl hax rfl hBI (by have := HK2.out; omega) hbw2.size ?_; intro vD wD haxD hbD hkbD hkD; (try (have hz := hkD _ _ hu hap; replace hu := hz.1; replace hap := hz.2; clear hz)); (try replace hBR := hkbD _ _ _ (by decide) hBR); clear hax; have hax := haxD; replace hbw2 := hbw2.trans hbD; clear hbD hkbD hkD hBI haxD
        refine hK _ _ (hbw2) ?_; clear hK K; try simp only [Act.put, List.setIfInBounds_toArray, List.set_cons_zero, List.set_cons_succ]
        refine WpT.one (i := 23) rfl (by kernel_rfl) (fun K hK => ?_)
        go_simp; (try go_bits)
        refine hK _ _ (hbw2) ?_; clear hK K; try simp only [Act.put, List.setIfInBounds_toArray, List.set_cons_zero, List.set_cons_succ]
        refine WpT.tail (i := 24) rfl (by kernel_rfl) (by kernel_rfl) (fun K hK => ?_)
        go_simp; (try go_bits)
        refine hK _ _ ?_; clear hK K; try simp only [Act.put, List.setIfInBounds_toArray, List.set_cons_zero, List.set_cons_succ]
        refine WpT.done (by kernel_rfl) ?_ _
        go_wp2_with fail; rw [← HN1.out, ← HN2.out] at hax; exact ⟨⟨k + 1, by omega, by go_num, hbw2, hax, HNp⟩, by simp [intOf]; omega⟩
    · obtain rfl : k = nr := by omega
      have hp := hpre.out
      rw [List.take_of_length_le (by have := HLr.out; omega)] at hp
      have hnl := length_near rs q HLL.out
      rw [List.take_of_length_le (by rw [hnl, HLq.out]; exact Nat.le_refl _)] at hax
      have HNs := Lib.hid (near_small rs q HLL.out (fun r hr' => ⟨HRY.out.2.1 r hr', (hp r hr').1, (hp r hr').2⟩))
      have HNl := Lib.hid (show (near rs q).length = k by rw [hnl, HLq.out])
      have HBX := Lib.hid (bound_axes M rs q HLL.out)
      have HBL := Lib.hid (box_le HM.out rs q HLL.out HRY.out.2.1)
      have HHA := Lib.hid (has_axes rs q HLL.out HRY.out.2.1)
      rw [HLq.out] at HBX HHA
      have HLO := Lib.hid (linesOk_axes k)
      have HSO := Lib.hid (some0_axes k)
      have HAl : Hid ((axes k).length = k) := Lib.hid (by simp [axes])
      clear hpre hp hnl
      obtain ⟨Aa, ca, rfl, hca, hma, hra⟩ := hax.rows.form
      obtain ⟨Ap, cp, rfl, hcp, hmp, hrp⟩ := hax.point.form
      rw [axesTo_all] at hra hca ⊢
      rw [HAl.out] at hra hca ⊢
      rw [length_iv, HNl.out] at hrp hcp ⊢
      clear hax
      replace hr := hr.below hbw
      replace hb := hb.below hbw
      go_wp2_with fail
      refine (boundM_any M HM.out Aa k ca (axes k) R cr rs B k d q _ hra hr hb (by omega) (by omega) HLO.out HSO.out HRY.out.2.2 HQ.out).mono ?_
      rintro e w3 ⟨rfl, hb3⟩
      rw [HBX.out]
      replace hr := hr.below hb3
      replace hb := hb.below hb3
      replace hra := hra.below hb3
      replace hrp := hrp.below hb3
      replace hbw := bstep hbw hb3
      clear hb3
      go_wp2_with fail
      refine (key_any M B k d q Ap k cp (near rs q) _ HM.out hb hrp (Nat.le_refl _) hm1 (by omega) HQ.out HNs.out).mono ?_
      rintro e w4 ⟨rfl, hb4⟩
      replace hr := hr.below hb4
      replace hra := hra.below hb4
      replace hrp := hrp.below hb4
      replace hbw := bstep hbw hb4
      clear hb4
      have hle := HBL.out.1
      have heq := HBL.out.2
      generalize box M rs q = b at *
      generalize norm M (sub q (near rs q)) = key at *
      go_wp2_with fail
      refine (sanity_any _ (HG.out.below hbw)).mono ?_
      rintro e w5 ⟨rfl, hb5⟩
      replace hr := hr.below hb5
      replace hra := hra.below hb5
      replace hrp := hrp.below hb5
      replace hbw := bstep hbw hb5
      clear hb5
      have hd1 : decide (b ≤ key) = true := decide_eq_true hle
      by_cases h3 : M = 3
      · have hn3 : (M != 3) = false := by simp [h3]
        have hbk : (b == key) = true := by simp [heq h3]
        clear heq
        go_wp2_with fail
        refine (apply_any Aa k ca (axes k) Ap k cp (near rs q) _ hra hrp (by omega) (by omega) HLO.out HNs.out).mono ?_
        rintro e w6 ⟨v6, rfl, ho6, hb6⟩
        replace hr := hr.below hb6
        replace hbw := bstep hbw hb6
        obtain ⟨A6, c6, rfl, hc6, hm6, hr6⟩ := ho6.form
        rw [length_iv, show (apply (axes k) (near rs q)).length = k by simp [apply, HAl.out]] at hr6 hc6 ⊢
        clear ho6 hb6
        go_wp2_with fail
        refine (has_any R k cr rs A6 c6 _ _ hr hr6 (by omega)).mono ?_
        rintro e w7 ⟨rfl, hb7⟩
        rw [HHA.out]
        replace hbw := bstep hbw hb7
        go_wp2_with fail
        go_ret
        exact ⟨rfl, hbw⟩
      · have hn3 : (M != 3) = true := by simp [h3]
        clear heq h3
        go_wp2_with fail
        refine (apply_any Aa k ca (axes k) Ap k cp (near rs q) _ hra hrp (by omega) (by omega) HLO.out HNs.out).mono ?_
        rintro e w6 ⟨v6, rfl, ho6, hb6⟩
        replace hr := hr.below hb6
        replace hbw := bstep hbw hb6
        obtain ⟨A6, c6, rfl, hc6, hm6, hr6⟩ := ho6.form
        rw [length_iv, show (apply (axes k) (near rs q)).length = k by simp [apply, HAl.out]] at hr6 hc6 ⊢
        clear ho6 hb6
        go_wp2_with fail
        refine (has_any R k cr rs A6 c6 _ _ hr hr6 (by omega)).mono ?_
        rintro e w7 ⟨rfl, hb7⟩
        rw [HHA.out]
        replace hbw := bstep hbw hb7
        go_wp2_with fail
        go_ret
        exact ⟨rfl, hbw⟩
end Go.Proofs.YtcehaojohfbfkaaDoor
