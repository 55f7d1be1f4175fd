/-
  What Of is in the reference. Conditions: the numbers are small.
-/
import Derived.Test.YtcehaojohfbfkaaDoorOfs
namespace Go.Proofs.YtcehaojohfbfkaaDoor
set_option linter.unusedSimpArgs false
set_option linter.unusedVariables false
open Go.RowKit Proj
theorem colR_snoc (l v : List Int) (vs : List (List Int)) (u : List Int) : colR l v (vs ++ [u]) = (min (colR l v vs).1 (dot l u), max (colR l v vs).2 (dot l u)) := by simp [colR]
set_option maxRecDepth 20000 in
set_option maxHeartbeats 4000000 in
theorem refOf_ranges (A : Option Addr) (n c : Nat) (ls : List (List Int)) (B : Option Addr) (m d : Nat) (v : List Int) (vs : List (List Int)) (D : Nat) (w : World) (ha : RdR w A n ls) (hb : RdR w B m (v :: vs)) (hn : n ≤ 1000) (hm : m ≤ 1000) (hD : D ≤ 64) (hL : LinesOk ls D) (hV : VecsOk (v :: vs) D) :
    Calls Tryd.prog 19 #[.slice A n c, .slice B m d] w fun e w' => ∃ u, e = .returned u ∧ OwnP w' w.heap.size u (rangesOf ls v vs) ∧ Below w.heap.size w w' := by
  have HLa := Lib.hid ha.len
  have HLb := Lib.hid (show vs.length + 1 = m by have := hb.len; simpa using this)
  have HL := Lib.hid hL
  have HV := Lib.hid hV
  have hm1 : 1 ≤ m := by have := HLb.out; omega
  clear hL hV
  go_enter Tryd.func19, Tryd.ntmps19
  go_wp2_with fail
  go_loopw [5, 6, 7, 8, 9, 10] (fun u j _ _ _ _ wr => ∃ k : Nat, k ≤ n ∧ j = .int .i64 k ∧ Below w.heap.size w wr ∧ OwnP wr w.heap.size u (rangesOf (ls.take k) v vs)) (fun _ j _ _ _ _ _ => n - (intOf j).toNat)
  case atStart => exact ⟨0, Nat.zero_le _, rfl, Below.refl _ _, OwnP.nil _ _⟩
  case round =>
    obtain ⟨k, hk, rfl, hbw, hown⟩ := hrel
    by_cases hlt : k < n
    · obtain ⟨ad, L, c', rfl, hc, hlc, hcm, hrl⟩ := (ha.below hbw).row k (by have := HLa.out; omega)
      obtain ⟨bd, L0, c0, rfl, hc0, hlc0, hcm0, hrl0⟩ := (hb.below hbw).row 0 (by simp)
      have hc0' := hc0
      rw [show bd.add 0 = bd from rfl] at hc0'
      simp only [List.getElem_cons_zero] at hc0 hc0' hlc0 hrl0
      have HT := Lib.hid (List.take_succ_eq_append_getElem (show k < ls.length by have := HLa.out; omega))
      have HM := Lib.hid (List.getElem_mem (show k < ls.length by have := HLa.out; omega))
      generalize ls[k]'(by have := HLa.out; omega) = l at *
      have HS : Hid (rangesOf (ls.take (k + 1)) v vs = rangesOf (ls.take k) v vs ++ [colR l v vs]) := Lib.hid (by rw [HT.out]; simp [rangesOf])
      have HLl := Lib.hid (HL.out.len l HM.out)
      have HLe := Lib.hid (HL.out.le l HM.out)
      have HLv := Lib.hid (HV.out.len v (by simp))
      have HVe := Lib.hid (HV.out.le v (by simp))
      have hLen : (rangesOf (ls.take k) v vs).length ≤ 1000 := by rw [length_rangesOf, List.length_take]; omega
      have HLen := Lib.hid hLen
      clear hLen
      go_wp2_with fail
      have hS0 : Below wr.heap.size wr wr.drew := (Below.refl _ wr).drew
      refine wp_region_T 8 (by kernel_rfl) ?_
      -- region 5: 9 operations, tail from 8
      refine WpT.take (i := 0) rfl (by kernel_rfl) (fun _ _ _ h => h) (.inl ⟨by rfl, fun w hSw => by clear hSw; go_simp; (try go_bits); (try rw [if_pos (by omega)]); (try with_reducible rfl)⟩) ((Below.refl _ _).drew) ?_
      try simp only [Act.put, List.setIfInBounds_toArray, List.set_cons_zero, List.set_cons_succ]
      refine WpT.take (i := 1) rfl (by kernel_rfl) (fun _ _ _ h => h) (.inl ⟨by rfl, fun w hSw => by clear hSw; go_simp; (try go_bits); (try rw [if_pos (by omega)]); (try with_reducible rfl)⟩) ((Below.refl _ _).drew) ?_
      try simp only [Act.put, List.setIfInBounds_toArray, List.set_cons_zero, List.set_cons_succ]
      refine WpT.take (i := 2) rfl (by kernel_rfl) (fun _ _ _ h => h) (.inl ⟨by rfl, fun w hSw => by clear hSw; go_simp; (try go_bits); (try rw [if_pos (by omega)]); (try with_reducible rfl)⟩) ((Below.refl _ _).drew) ?_
      try simp only [Act.put, List.setIfInBounds_toArray, List.set_cons_zero, List.set_cons_succ]
      refine WpT.take (i := 3) rfl (by kernel_rfl) (fun _ _ _ h => h) (yields_load rfl rfl rfl (by kernel_rfl) (by assumption)) ((Below.refl _ _).drew) ?_
      try simp only [Act.put, List.setIfInBounds_toArray, List.set_cons_zero, List.set_cons_succ]
      refine WpT.take (i := 4) rfl (by kernel_rfl) (fun _ _ _ h => h) (.inl ⟨by rfl, fun w hSw => by clear hSw; go_simp; (try go_bits); (try rw [if_pos (by omega)]); (try with_reducible rfl)⟩) ((Below.refl _ _).drew) ?_
      try simp only [Act.put, List.setIfInBounds_toArray, List.set_cons_zero, List.set_cons_succ]
      refine WpT.take (i := 5) rfl (by kernel_rfl) (fun _ _ _ h => h) (.inl ⟨by rfl, fun w hSw => by clear hSw; go_simp; (try go_bits); (try rw [if_pos (by omega)]); (try with_reducible rfl)⟩) ((Below.refl _ _).drew) ?_
      try simp only [Act.put, List.setIfInBounds_toArray, List.set_cons_zero, List.set_cons_succ]
      refine WpT.take (i := 6) rfl (by kernel_rfl) (fun _ _ _ h => h) (yields_load rfl rfl rfl (by kernel_rfl) (by assumption)) ((Below.refl _ _).drew) ?_
      try simp only [Act.put, List.setIfInBounds_toArray, List.set_cons_zero, List.set_cons_succ]
      refine WpT.one (i := 7) rfl (by kernel_rfl) (fun K hK => ?_)
      go_simp; refine (refDot_any L l.length c' l L0 v.length c0 v _ (hrl.below hS0) (hrl0.below hS0) (by have := HLl.out; have := HLv.out; omega) (by have := HLl.out; omega) HLe.out HVe.out).mono ?_; rintro e w2 ⟨rfl, hb2⟩; have hS2 := bstep hS0 hb2
      refine hK _ _ (hS2) ?_; clear hK K; try simp only [Act.put, List.setIfInBounds_toArray, List.set_cons_zero, List.set_cons_succ]
      refine WpT.tail (i := 8) rfl (by kernel_rfl) (by kernel_rfl) (fun K hK => ?_)
      go_simp; (try go_bits)
      refine hK _ _ ?_; clear hK K; try simp only [Act.put, List.setIfInBounds_toArray, List.set_cons_zero, List.set_cons_succ]
      refine WpT.done (by kernel_rfl) ?_ _
      have HC := Lib.hid hc
      have HRL := Lib.hid hrl
      have HS2 := Lib.hid hS2
      clear hc hc0 hc0' hrl hrl0 hb2 hS0
      replace hown := hown.below hS2
      replace hbw := hbw.trans (hS2.mono hbw.size)
      clear hS2
      generalize hx : dot l v = x at *
      have HX := Lib.hid hx
      clear hx
      go_wp2_with (first
        | (refine wpList_allocP rfl rfl ?_; intro w3 g3 hg3 hbk hb3 hg4; have Hg3 := Lib.hid hg3; clear hg3)
        | (refine wpList_storeP rfl rfl rfl rfl hbk rfl rfl rfl ?_; intro w4 hbk4 hb4))
      have hB4 : Below w2.heap.size w2 w4 := hb3.trans (hb4.mono (by rw [Hg3.out]; exact Nat.le_refl _))
      clear hb3 hb4 hbk hg4
      go_loopw [9, 10] (fun i _ wi => ∃ k2 : Nat, 1 ≤ k2 ∧ k2 ≤ m ∧ i = .int .i64 k2 ∧ Below w2.heap.size w2 wi ∧ Blk wi g3 45 #[.int .i64 (colR l v (vs.take (k2 - 1))).1, .int .i64 (colR l v (vs.take (k2 - 1))).2]) (fun i _ _ => m - (intOf i).toNat)
      case atStart => exact ⟨1, Nat.le_refl _, hm1, rfl, hB4, by simpa [colR, HX.out] using hbk4⟩
      case round =>
        clear hbk4 hB4
        obtain ⟨k2, hk1, hk2, rfl, hbi, hbk⟩ := hrel
        have hbwi := hbw.trans (hbi.mono hbw.size)
        by_cases hlt2 : k2 < m
        · have hS3 := bstep HS2.out hbi
          have hc := cell_below hS3 HC.out
          have hrl := HRL.out.below hS3
          obtain ⟨bd', L2, c2, he, hc2, hlc2, hcm2, hrl2⟩ := (hb.below hbwi).row k2 (by have := HLb.out; simp; omega)
          injection he with he
          subst he
          obtain ⟨q, rfl⟩ : ∃ q, k2 = q + 1 := ⟨k2 - 1, by omega⟩
          simp only [List.getElem_cons_succ, Nat.add_sub_cancel] at *
          have HT2 := Lib.hid (List.take_succ_eq_append_getElem (show q < vs.length by have := HLb.out; omega))
          have HM2 := Lib.hid (List.getElem_mem (show q < vs.length by have := HLb.out; omega))
          generalize vs[q]'(by have := HLb.out; omega) = y at *
          have HC2 : Hid (colR l v (vs.take (q + 1)) = (min (colR l v (vs.take q)).1 (dot l y), max (colR l v (vs.take q)).2 (dot l y))) := Lib.hid (by rw [HT2.out, colR_snoc])
          have HLy := Lib.hid (HV.out.len y (by simp [HM2.out]))
          have HLye := Lib.hid (HV.out.le y (by simp [HM2.out]))
          generalize colR l v (vs.take q) = r at *
          obtain ⟨lo, hi⟩ := r
          dsimp only at *
          have hS5 : Below wr.heap.size wr wr.drew := (Below.refl _ wr).drew
          go_wp2_with fail
          refine wp_region_T 9 (by kernel_rfl) ?_
          -- region 10: 10 operations, tail from 9
          refine WpT.take (i := 0) rfl (by kernel_rfl) (fun _ _ _ h => h) (.inl ⟨by rfl, fun w hSw => by clear hSw; go_simp; (try go_bits); (try rw [if_pos (by omega)]); (try with_reducible rfl)⟩) ((Below.refl _ _).drew) ?_
          try simp only [Act.put, List.setIfInBounds_toArray, List.set_cons_zero, List.set_cons_succ]
          refine WpT.take (i := 1) rfl (by kernel_rfl) (fun _ _ _ h => h) (.inl ⟨by rfl, fun w hSw => by clear hSw; go_simp; (try go_bits); (try rw [if_pos (by omega)]); (try with_reducible rfl)⟩) ((Below.refl _ _).drew) ?_
          try simp only [Act.put, List.setIfInBounds_toArray, List.set_cons_zero, List.set_cons_succ]
          refine WpT.take (i := 2) rfl (by kernel_rfl) (fun _ _ _ h => h) (.inl ⟨by rfl, fun w hSw => by clear hSw; go_simp; (try go_bits); (try rw [if_pos (by omega)]); (try with_reducible rfl)⟩) ((Below.refl _ _).drew) ?_
          try simp only [Act.put, List.setIfInBounds_toArray, List.set_cons_zero, List.set_cons_succ]
          refine WpT.take (i := 3) rfl (by kernel_rfl) (fun _ _ _ h => h) (yields_load rfl rfl rfl (by kernel_rfl) (by assumption)) ((Below.refl _ _).drew) ?_
          try simp only [Act.put, List.setIfInBounds_toArray, List.set_cons_zero, List.set_cons_succ]
          refine WpT.take (i := 4) rfl (by kernel_rfl) (fun _ _ _ h => h) (.inl ⟨by rfl, fun w hSw => by clear hSw; go_simp; (try go_bits); (try rw [if_pos (by omega)]); (try with_reducible rfl)⟩) ((Below.refl _ _).drew) ?_
          try simp only [Act.put, List.setIfInBounds_toArray, List.set_cons_zero, List.set_cons_succ]
          refine WpT.take (i := 5) rfl (by kernel_rfl) (fun _ _ _ h => h) (.inl ⟨by rfl, fun w hSw => by clear hSw; go_simp; (try go_bits); (try rw [if_pos (by omega)]); (try with_reducible rfl)⟩) ((Below.refl _ _).drew) ?_
          try simp only [Act.put, List.setIfInBounds_toArray, List.set_cons_zero, List.set_cons_succ]
          refine WpT.take (i := 6) rfl (by kernel_rfl) (fun _ _ _ h => h) (.inl ⟨by rfl, fun w hSw => by clear hSw; go_simp; (try go_bits); (try rw [if_pos (by omega)]); (try with_reducible rfl)⟩) ((Below.refl _ _).drew) ?_
          try simp only [Act.put, List.setIfInBounds_toArray, List.set_cons_zero, List.set_cons_succ]
          refine WpT.take (i := 7) rfl (by kernel_rfl) (fun _ _ _ h => h) (yields_load rfl rfl rfl (by kernel_rfl) (by assumption)) ((Below.refl _ _).drew) ?_
          try simp only [Act.put, List.setIfInBounds_toArray, List.set_cons_zero, List.set_cons_succ]
          refine WpT.one (i := 8) rfl (by kernel_rfl) (fun K hK => ?_)
          go_simp; refine (refDot_any L l.length c' l L2 y.length c2 y _ (hrl.below hS5) (hrl2.below hS5) (by have := HLl.out; have := HLy.out; omega) (by have := HLl.out; omega) HLe.out HLye.out).mono ?_; rintro e w5 ⟨rfl, hb5⟩; have hS6 := bstep hS5 hb5
          refine hK _ _ (hS6) ?_; clear hK K; try simp only [Act.put, List.setIfInBounds_toArray, List.set_cons_zero, List.set_cons_succ]
          refine WpT.tail (i := 9) rfl (by kernel_rfl) (by kernel_rfl) (fun K hK => ?_)
          go_simp; (try go_bits)
          refine hK _ _ ?_; clear hK K; try simp only [Act.put, List.setIfInBounds_toArray, List.set_cons_zero, List.set_cons_succ]
          refine WpT.done (by kernel_rfl) ?_ _
          replace hbk := hbk.below hS6
          have hk0 := hbk.cell 0
          have hk1' := hbk.cell 1
          simp only [List.getElem?_toArray, List.getElem?_cons_zero, List.getElem?_cons_succ] at hk0 hk1'
          have hbi5 := hbi.trans (hS6.mono hbi.size)
          clear hb5 hS5 hS6 hc hrl hc2 hrl2
          generalize dot l y = z at *
          go_wp2_with (refine wpList_storeP rfl rfl rfl rfl hbk rfl rfl rfl ?_; intro w6 hbk6 hb6)
          refine ⟨⟨q + 1 + 1, by omega, by omega, by go_num, hbi5.trans (hb6.mono (by rw [Hg3.out]; exact Nat.le_refl _)), ?_⟩, by simp [intOf]; omega⟩
          rw [Nat.add_sub_cancel, HC2.out]
          exact hbk6
        · obtain rfl : k2 = m := by omega
          have HT2 := Lib.hid (show vs.take (k2 - 1) = vs by rw [List.take_of_length_le (by have := HLb.out; omega)])
          rw [HT2.out] at hbk
          replace hown := hown.below hbi
          generalize hr : colR l v vs = r at *
          have HR := Lib.hid hr
          clear hr
          obtain ⟨lo, hi⟩ := r
          dsimp only at *
          go_wp2_with (first
            | (refine wpList_loadRow rfl rfl rfl hbk (by kernel_rfl) (by kernel_rfl) ?_)
            | (refine wpList_litP (lo := lo) (hi := hi) rfl rfl rfl ?_; intro w5 g5 hg5 hrd hb5; clear hg5; replace hown := hown.below hb5)
            | (at_builtin; refine wpList_appP rfl rfl rfl hown rfl rfl hrd (by have := HLen.out; omega) (by have := hbwi.size; have := hb5.size; omega) ?_; intro v' w6 hown2 hb6))
          rw [← HS.out] at hown2
          exact ⟨⟨k + 1, by omega, by go_num, hbwi.trans ((hb5.mono hbwi.size).trans hb6), hown2⟩, by simp [intOf]; omega⟩
    · obtain rfl : k = n := by omega
      have HT := Lib.hid (show ls.take k = ls by rw [List.take_of_length_le (by have := HLa.out; omega)])
      rw [HT.out] at hown
      go_wp2
      go_ret
      exact ⟨_, rfl, hown, hbw⟩
end Go.Proofs.YtcehaojohfbfkaaDoor
