/-
  The reference's texts. Conditions: none.
-/
import Derived.Test.YtiajmdmofjfdcaaGreatDoorRd2
namespace Go.Proofs.YtiajmdmofjfdcaaGreatDoor
set_option linter.unusedSimpArgs false
set_option linter.unusedVariables false
open Go.RowKit Lexr
def textF (X : Option (List UInt8 × Nat)) : Except Int (Int × List UInt8 × Nat) := match X with
  | none => .error 142
  | some r => if 200 < r.1.length then .error 142 else .ok (4, r.1, r.2 + 1)
theorem textT_F (l : List UInt8) : textT l = textF (txt (l.drop 1)) := by
  unfold textT textF
  cases txt (l.drop 1) <;> rfl
set_option maxRecDepth 20000 in
set_option maxHeartbeats 8000000 in
theorem refText_any (s : ByteArray) (K : Nat) (w : World) (hK : K < s.size) (hs : s.size ≤ 1099511627776) :
    Calls Tryz.prog 56 #[.string s, .int .i64 K] w (GoIs (textT (s.data.toList.drop K)) K w) := by
  have hl : s.data.toList.length = s.size := (Lib.size_eq s).symm
  have HL := Lib.hid hl
  obtain ⟨X, hX⟩ : ∃ X, txt (s.data.toList.drop (K + 1)) = X := ⟨_, rfl⟩
  obtain ⟨TX, hTX⟩ : ∃ TX, textT (s.data.toList.drop K) = TX := ⟨_, rfl⟩
  have hTe : TX = textF X := by rw [← hTX, ← hX, textT_F, List.drop_drop]
  have HTN : Hid (X = none → TX = .error 142) := Lib.hid (fun h => by rw [hTe, h]; rfl)
  have HTB : Hid (∀ r, X = some r → 200 < r.1.length → TX = .error 142) := Lib.hid (fun r h h2 => by rw [hTe, h]; unfold textF; simp only; rw [if_pos h2])
  have HTO : Hid (∀ r, X = some r → ¬ 200 < r.1.length → TX = .ok (4, r.1, r.2 + 1)) := Lib.hid (fun r h h2 => by rw [hTe, h]; unfold textF; simp only; rw [if_neg h2])
  have HXR : Hid (X = (txt (s.data.toList.drop (K + 1))).map (fun r => (([] : List UInt8) ++ r.1, K + 1 - (K + 1) + r.2))) := Lib.hid (by
    rw [hX]
    cases X with
    | none => rfl
    | some r => simp)
  rw [hTX]
  clear hX hTX hTe hl
  unfold GoIs
  go_enter Tryz.func56, Tryz.ntmps56
  go_wp2_with ((with_reducible show wpList _ _ _ ({ dst := some 4, op := _, type := _, pos := _, after := _, guard := _ } :: _) _ _); refine wpList_new (cs := #[.int .i64 0, .int .i64 0, .string ⟨#[]⟩, .int .i64 0, .int .i64 0]) rfl rfl zeroGo ?_; intro w1 g1 hg1 b1 hb1 lt1; have HG1 := Lib.hid hg1; clear hg1 lt1)
  have HG : Hid (w.heap.size ≤ g1) := Lib.hid (by have := HG1.out; omega)
  have HB1 := Lib.hid b1
  have HW1 := Lib.hid hb1
  have HX1 : Hid (Below w1.heap.size w1 w1) := Lib.hid (Below.refl _ _)
  clear b1 hb1 HG1
  go_loopw [5, 6, 7] (fun v5 v6 _ wr => ∃ (J : Nat) (O : List UInt8), K + 1 ≤ J ∧ J ≤ s.size ∧ v6 = .int .i64 J ∧ Own wr w1.heap.size 5 v5 (bv O) ∧ Hid (X = (txt (s.data.toList.drop J)).map (fun r => (O ++ r.1, J - (K + 1) + r.2))) ∧ Hid (O.length ≤ J) ∧ Hid (Below w1.heap.size w1 wr)) (fun _ v6 _ _ => s.size - (intOf v6).toNat)
  case atStart => exact ⟨K + 1, [], Nat.le_refl _, hK, by go_num, Own.nil _ _ _, HXR, Lib.hid (Nat.zero_le _), HX1⟩
  case round =>
    clear HXR HX1
    obtain ⟨J, O, hKJ, hJ, rfl, hown, HX, HO, HW⟩ := hrel
    obtain ⟨A, n, c, rfl, HN, hnc, hcm, hrd⟩ := hown.formN
    have HOW := Lib.hid hown
    have HRD := Lib.hid hrd
    have HNC : Hid (n ≤ c ∧ c ≤ maxLen) := Lib.hid ⟨hnc, hcm⟩
    have HNO : Hid (n = O.length) := Lib.hid (by have := HN.out; simpa [bv] using this)
    have hn1 : n ≤ 1099511627776 := by have := HNO.out; have := HO.out; omega
    clear hown hrd hnc hcm
    by_cases hlt : J < s.size
    · have hjl : J < s.data.toList.length := by rw [HL.out]; exact hlt
      have hgk : s.data.toList[J] = s[J]'hlt := list_get s J hlt hjl
      obtain ⟨b, hbv⟩ : ∃ b : UInt8, s[J]'hlt = b := ⟨_, rfl⟩
      have HGB : Hid (∀ h : J < s.data.toList.length, s.data.toList[J]'h = b) := Lib.hid (fun h => by rw [hgk, hbv])
      have HJL := Lib.hid hjl
      obtain ⟨x, hx⟩ : ∃ x : Int, (b.toNat : Int) = x := ⟨_, rfl⟩
      have hnat : ((s[J]'hlt).toNat : Int) = x := by rw [hbv, hx]
      have HXU : Hid ((.int .u8 x : Value) = .int .u8 (b.toNat : Nat)) := Lib.hid (by rw [hx])
      have hx8 : 0 ≤ x ∧ x < 256 := by have := b.toNat_lt; omega
      clear hgk hjl hbv
      by_cases h34 : b.toNat = 34
      · have hXe : X = some (O ++ [], J - (K + 1) + 1) := by rw [HX.out, txt_q _ _ HJL.out (by rw [HGB.out]; exact h34)]; rfl
        rw [List.append_nil] at hXe
        obtain rfl : x = 34 := by omega
        have HXE := Lib.hid hXe
        clear h34 hx hXe HX HXU
        by_cases h200 : 200 < O.length
        · have HTE : Hid (TX = .error 142) := Lib.hid (HTB.out _ HXE.out h200)
          have d2 : decide ((200 : Int) < (n : Int)) = true := by rw [decide_eq_true_eq]; have := HNO.out; omega
          have d2n : decide (200 < n) = true := by rw [decide_eq_true_eq]; have := HNO.out; omega
          clear h200
          have c1 := HB1.out.below HW.out
          go_wp2_with (first
            | ((with_reducible show wpList _ _ _ ({ dst := some 24, op := _, type := _, pos := _, after := _, guard := _ } :: _) _ _); refine wpList_bld1 rfl rfl rfl (buildGoE 142) ?_)
            | ((with_reducible show wpList _ _ _ ({ dst := some 38, op := _, type := _, pos := _, after := _, guard := _ } :: _) _ _); refine wpList_bld1 rfl rfl rfl (buildGoE 142) ?_)
            | ((with_reducible show wpList _ _ _ ({ dst := some 59, op := _, type := _, pos := _, after := _, guard := _ } :: _) _ _); refine wpList_bld1 rfl rfl rfl (buildGoE 142) ?_)
            | ((with_reducible show wpList _ _ _ ({ dst := some 67, op := _, type := _, pos := _, after := _, guard := _ } :: _) _ _); refine wpList_bld1 rfl rfl rfl (buildGoE 142) ?_)
            | ((with_reducible show wpList _ _ _ ({ dst := none, op := _, type := _, pos := _, after := _, guard := _ } :: _) _ _); refine wpList_put (vs := gotC (.error 142) K) rfl rfl rfl rfl c1 (gotC_size _ _) (by rw [sizeGo, gotC_size]) (one_gotC _ _) ?_; intro w7 ht7 b7))
          exact ret_blk rfl rfl rfl b7 aggGo (by rw [sizeGo, gotC_size]) ⟨by rw [HTE.out], (bstep HW1.out HW.out).trans (ht7.below _ HG.out)⟩
        · have HTE : Hid (TX = .ok (4, O, J - (K + 1) + 1 + 1)) := Lib.hid (HTO.out _ HXE.out h200)
          have d2 : decide ((200 : Int) < (n : Int)) = false := by rw [decide_eq_false_iff_not]; have := HNO.out; omega
          have d2n : decide (200 < n) = false := by rw [decide_eq_false_iff_not]; have := HNO.out; omega
          obtain ⟨E1, hE1⟩ : ∃ E1, J + 1 = E1 := ⟨_, rfl⟩
          have HEE : Hid (K + (J - (K + 1) + 1 + 1) = E1) := Lib.hid (by omega)
          have hadd : ((J : Int) + 1) = (E1 : Int) := by omega
          clear hE1
          have c1 := HB1.out.below HW.out
          clear h200
          go_wp2_with (first
            | ((with_reducible show wpList _ _ _ ({ dst := some 27, op := _, type := _, pos := _, after := _, guard := _ } :: _) _ _); refine wpList_bts (l := O) rfl rfl bytesTy (by kernel_rfl) rfl HRD.out ?_)
            | ((with_reducible show wpList _ _ _ ({ dst := some 28, op := _, type := _, pos := _, after := _, guard := _ } :: _) _ _); refine wpList_bld3 rfl rfl rfl rfl rfl (buildLx 4 (K : Int) O) ?_)
            | ((with_reducible show wpList _ _ _ ({ dst := some 31, op := _, type := _, pos := _, after := _, guard := _ } :: _) _ _); refine wpList_bld2 rfl rfl rfl rfl (buildGoO 4 K (J - (K + 1) + 1 + 1) E1 O HEE.out) ?_)
            | ((with_reducible show wpList _ _ _ ({ dst := none, op := _, type := _, pos := _, after := _, guard := _ } :: _) _ _); refine wpList_put (vs := gotC (.ok (4, O, J - (K + 1) + 1 + 1)) K) rfl rfl rfl rfl c1 (gotC_size _ _) (by rw [sizeGo, gotC_size]) (one_gotC _ _) ?_; intro w7 ht7 b7))
          exact ret_blk rfl rfl rfl b7 aggGo (by rw [sizeGo, gotC_size]) ⟨by rw [HTE.out], (bstep HW1.out HW.out).trans (ht7.below _ HG.out)⟩
      · have dq : (x == 34) = false := by simp; omega
        by_cases hbad : b.toNat < 32 ∨ 126 < b.toNat
        · have HTE : Hid (TX = .error 142) := Lib.hid (HTN.out (by rw [HX.out, txt_bad _ _ HJL.out (by rw [HGB.out]; exact h34) (by rw [HGB.out]; exact hbad)]; rfl))
          by_cases h32 : b.toNat < 32
          · have d3 : decide (x < 32) = true := by rw [decide_eq_true_eq]; omega
            clear h34 hbad h32 hx HX HXU hx8
            have c1 := HB1.out.below HW.out
            go_wp2_with (first
              | ((with_reducible show wpList _ _ _ ({ dst := some 24, op := _, type := _, pos := _, after := _, guard := _ } :: _) _ _); refine wpList_bld1 rfl rfl rfl (buildGoE 142) ?_)
              | ((with_reducible show wpList _ _ _ ({ dst := some 38, op := _, type := _, pos := _, after := _, guard := _ } :: _) _ _); refine wpList_bld1 rfl rfl rfl (buildGoE 142) ?_)
              | ((with_reducible show wpList _ _ _ ({ dst := some 59, op := _, type := _, pos := _, after := _, guard := _ } :: _) _ _); refine wpList_bld1 rfl rfl rfl (buildGoE 142) ?_)
              | ((with_reducible show wpList _ _ _ ({ dst := some 67, op := _, type := _, pos := _, after := _, guard := _ } :: _) _ _); refine wpList_bld1 rfl rfl rfl (buildGoE 142) ?_)
              | ((with_reducible show wpList _ _ _ ({ dst := none, op := _, type := _, pos := _, after := _, guard := _ } :: _) _ _); refine wpList_put (vs := gotC (.error 142) K) rfl rfl rfl rfl c1 (gotC_size _ _) (by rw [sizeGo, gotC_size]) (one_gotC _ _) ?_; intro w7 ht7 b7))
            exact ret_blk rfl rfl rfl b7 aggGo (by rw [sizeGo, gotC_size]) ⟨by rw [HTE.out], (bstep HW1.out HW.out).trans (ht7.below _ HG.out)⟩
          · have d3 : decide (x < 32) = false := by rw [decide_eq_false_iff_not]; omega
            have d4 : decide (126 < x) = true := by rw [decide_eq_true_eq]; omega
            clear h34 hbad h32 hx HX HXU hx8
            have c1 := HB1.out.below HW.out
            go_wp2_with (first
              | ((with_reducible show wpList _ _ _ ({ dst := some 24, op := _, type := _, pos := _, after := _, guard := _ } :: _) _ _); refine wpList_bld1 rfl rfl rfl (buildGoE 142) ?_)
              | ((with_reducible show wpList _ _ _ ({ dst := some 38, op := _, type := _, pos := _, after := _, guard := _ } :: _) _ _); refine wpList_bld1 rfl rfl rfl (buildGoE 142) ?_)
              | ((with_reducible show wpList _ _ _ ({ dst := some 59, op := _, type := _, pos := _, after := _, guard := _ } :: _) _ _); refine wpList_bld1 rfl rfl rfl (buildGoE 142) ?_)
              | ((with_reducible show wpList _ _ _ ({ dst := some 67, op := _, type := _, pos := _, after := _, guard := _ } :: _) _ _); refine wpList_bld1 rfl rfl rfl (buildGoE 142) ?_)
              | ((with_reducible show wpList _ _ _ ({ dst := none, op := _, type := _, pos := _, after := _, guard := _ } :: _) _ _); refine wpList_put (vs := gotC (.error 142) K) rfl rfl rfl rfl c1 (gotC_size _ _) (by rw [sizeGo, gotC_size]) (one_gotC _ _) ?_; intro w7 ht7 b7))
            exact ret_blk rfl rfl rfl b7 aggGo (by rw [sizeGo, gotC_size]) ⟨by rw [HTE.out], (bstep HW1.out HW.out).trans (ht7.below _ HG.out)⟩
        · have d3 : decide (x < 32) = false := by rw [decide_eq_false_iff_not]; omega
          have d4 : decide (126 < x) = false := by rw [decide_eq_false_iff_not]; omega
          by_cases h92 : b.toNat = 92
          · obtain rfl : x = 92 := by omega
            obtain ⟨E1, hE1⟩ : ∃ E1, J + 1 = E1 := ⟨_, rfl⟩
            obtain ⟨E2, hE2⟩ : ∃ E2, J + 2 = E2 := ⟨_, rfl⟩
            have hadd : ((J : Int) + 1) = (E1 : Int) := by omega
            have hadd2 : ((E1 : Int) + 1) = (E2 : Int) := by omega
            have HE := Lib.hid (And.intro hE1 hE2)
            by_cases hlt2 : E1 < s.size
            · have hjl2 : J + 1 < s.data.toList.length := by rw [HL.out]; omega
              obtain ⟨e, hev⟩ : ∃ e : UInt8, s[E1]'hlt2 = e := ⟨_, rfl⟩
              have HGE : Hid (∀ h : J + 1 < s.data.toList.length, s.data.toList[J + 1]'h = e) := Lib.hid (fun h => by subst hE1; rw [list_get s (J + 1) hlt2 h, hev])
              obtain ⟨y, hy⟩ : ∃ y : Int, (e.toNat : Int) = y := ⟨_, rfl⟩
              have hnat2 : ((s[E1]'hlt2).toNat : Int) = y := by rw [hev, hy]
              have HYU : Hid ((.int .u8 y : Value) = .int .u8 (e.toNat : Nat)) := Lib.hid (by rw [hy])
              have dne : ((E1 : Int) == (s.size : Int)) = false := by simp; omega
              by_cases hok : e.toNat = 34 ∨ e.toNat = 92
              · have HX2 : Hid (X = (txt (s.data.toList.drop E2)).map (fun r => ((O ++ [e]) ++ r.1, E2 - (K + 1) + r.2))) := Lib.hid (by
                  rw [← hE2]
                  rw [HX.out, txt_esc _ _ hjl2 (by rw [HGB.out]; exact h92) (by rw [HGE.out]; exact hok), HGE.out]
                  cases txt (s.data.toList.drop (J + 2)) with
                  | none => rfl
                  | some r => simp; omega)
                have hyc : y = 34 ∨ y = 92 := by omega
                have HO2 : Hid ((O ++ [e]).length ≤ E2) := Lib.hid (by have := HO.out; simp; omega)
                clear hok hjl2 hev h34 hbad h92 hx HX HXU hx8 hy hE1 hE2
                rcases hyc with rfl | rfl <;>
                · go_wp2_with (first
                    | ((with_reducible show wpList _ _ _ ({ dst := some 65, op := _, type := _, pos := _, after := _, guard := _ } :: _) _ _); refine wpList_lit1By e rfl rfl (by first | exact HYU.out | (simp only [Act.eval]; exact HYU.out)) ?_; intro w5 g5 hr5 hb5)
                    | ((with_reducible show wpList _ _ _ ({ dst := some 66, op := _, type := _, pos := _, after := _, guard := _ } :: _) _ _); refine wpList_app (v := .slice A n c) rfl rfl elemBytes rfl (Own.below HOW.out hb5) rfl hr5 (oneCell_bv _) (by rw [length_bv]; have := HO.out; omega) (by have := HW.out.size; have := hb5.size; omega) ?_; intro v7 w7 o7 _ hb7 _))
                  refine ⟨⟨E2, O ++ [e], by have := HE.out; omega, by have := HE.out; omega, by go_num, by rw [bv_append]; exact o7, HX2, HO2, Lib.hid ((HW.out.trans (hb5.mono HW.out.size)).trans hb7)⟩, by have := HE.out; simp [intOf]; omega⟩
              · have HTE : Hid (TX = .error 142) := Lib.hid (HTN.out (by
                  rw [HX.out, txt_escBad _ _ HJL.out (by rw [HGB.out]; exact h92) (fun h => by rw [HGE.out]; exact hok)]; rfl))
                have dy1 : (y != 34) = true := by simp; omega
                have dy2 : (y != 92) = true := by simp; omega
                clear hok hjl2 hev h34 hbad h92 hx HX HXU hx8 hy hE1 hE2
                have c1 := HB1.out.below HW.out
                go_wp2_with (first
                  | ((with_reducible show wpList _ _ _ ({ dst := some 24, op := _, type := _, pos := _, after := _, guard := _ } :: _) _ _); refine wpList_bld1 rfl rfl rfl (buildGoE 142) ?_)
                  | ((with_reducible show wpList _ _ _ ({ dst := some 38, op := _, type := _, pos := _, after := _, guard := _ } :: _) _ _); refine wpList_bld1 rfl rfl rfl (buildGoE 142) ?_)
                  | ((with_reducible show wpList _ _ _ ({ dst := some 59, op := _, type := _, pos := _, after := _, guard := _ } :: _) _ _); refine wpList_bld1 rfl rfl rfl (buildGoE 142) ?_)
                  | ((with_reducible show wpList _ _ _ ({ dst := some 67, op := _, type := _, pos := _, after := _, guard := _ } :: _) _ _); refine wpList_bld1 rfl rfl rfl (buildGoE 142) ?_)
                  | ((with_reducible show wpList _ _ _ ({ dst := none, op := _, type := _, pos := _, after := _, guard := _ } :: _) _ _); refine wpList_put (vs := gotC (.error 142) K) rfl rfl rfl rfl c1 (gotC_size _ _) (by rw [sizeGo, gotC_size]) (one_gotC _ _) ?_; intro w7 ht7 b7))
                exact ret_blk rfl rfl rfl b7 aggGo (by rw [sizeGo, gotC_size]) ⟨by rw [HTE.out], (bstep HW1.out HW.out).trans (ht7.below _ HG.out)⟩
            · have HTE : Hid (TX = .error 142) := Lib.hid (HTN.out (by
                rw [HX.out, txt_escBad _ _ HJL.out (by rw [HGB.out]; exact h92) (fun h => absurd h (by rw [HL.out]; omega))]; rfl))
              have dne : ((E1 : Int) == (s.size : Int)) = true := by simp; omega
              clear h34 hbad h92 hx HX HXU hx8 hlt2 hE1 hE2
              have c1 := HB1.out.below HW.out
              go_wp2_with (first
                | ((with_reducible show wpList _ _ _ ({ dst := some 24, op := _, type := _, pos := _, after := _, guard := _ } :: _) _ _); refine wpList_bld1 rfl rfl rfl (buildGoE 142) ?_)
                | ((with_reducible show wpList _ _ _ ({ dst := some 38, op := _, type := _, pos := _, after := _, guard := _ } :: _) _ _); refine wpList_bld1 rfl rfl rfl (buildGoE 142) ?_)
                | ((with_reducible show wpList _ _ _ ({ dst := some 59, op := _, type := _, pos := _, after := _, guard := _ } :: _) _ _); refine wpList_bld1 rfl rfl rfl (buildGoE 142) ?_)
                | ((with_reducible show wpList _ _ _ ({ dst := some 67, op := _, type := _, pos := _, after := _, guard := _ } :: _) _ _); refine wpList_bld1 rfl rfl rfl (buildGoE 142) ?_)
                | ((with_reducible show wpList _ _ _ ({ dst := none, op := _, type := _, pos := _, after := _, guard := _ } :: _) _ _); refine wpList_put (vs := gotC (.error 142) K) rfl rfl rfl rfl c1 (gotC_size _ _) (by rw [sizeGo, gotC_size]) (one_gotC _ _) ?_; intro w7 ht7 b7))
              exact ret_blk rfl rfl rfl b7 aggGo (by rw [sizeGo, gotC_size]) ⟨by rw [HTE.out], (bstep HW1.out HW.out).trans (ht7.below _ HG.out)⟩
          · have d5 : (x == 92) = false := by simp; omega
            have HX2 : Hid (X = (txt (s.data.toList.drop (J + 1))).map (fun r => ((O ++ [b]) ++ r.1, J + 1 - (K + 1) + r.2))) := Lib.hid (by
              rw [HX.out, txt_plain _ _ HJL.out (by rw [HGB.out]; exact h34) (by rw [HGB.out]; exact hbad) (by rw [HGB.out]; exact h92), HGB.out]
              cases txt (s.data.toList.drop (J + 1)) with
              | none => rfl
              | some r => simp; omega)
            have HO2 : Hid ((O ++ [b]).length ≤ J + 1) := Lib.hid (by have := HO.out; simp; omega)
            clear h34 hbad h92 hx HX hx8
            go_wp2_with (first
              | ((with_reducible show wpList _ _ _ ({ dst := some 65, op := _, type := _, pos := _, after := _, guard := _ } :: _) _ _); refine wpList_lit1By b rfl rfl (by first | exact HXU.out | (simp only [Act.eval]; exact HXU.out)) ?_; intro w5 g5 hr5 hb5)
              | ((with_reducible show wpList _ _ _ ({ dst := some 66, op := _, type := _, pos := _, after := _, guard := _ } :: _) _ _); refine wpList_app (v := .slice A n c) rfl rfl elemBytes rfl (Own.below HOW.out hb5) rfl hr5 (oneCell_bv _) (by rw [length_bv]; have := HO.out; omega) (by have := HW.out.size; have := hb5.size; omega) ?_; intro v7 w7 o7 _ hb7 _))
            refine ⟨⟨J + 1, O ++ [b], by omega, by omega, by go_num, by rw [bv_append]; exact o7, HX2, HO2, Lib.hid ((HW.out.trans (hb5.mono HW.out.size)).trans hb7)⟩, by simp [intOf]; omega⟩
    · obtain rfl : J = s.size := by omega
      have HTE : Hid (TX = .error 142) := Lib.hid (HTN.out (by rw [HX.out, txt_end _ _ (by rw [HL.out]; exact Nat.le_refl _)]; rfl))
      clear HX
      have c1 := HB1.out.below HW.out
      go_wp2_with (first
        | ((with_reducible show wpList _ _ _ ({ dst := some 24, op := _, type := _, pos := _, after := _, guard := _ } :: _) _ _); refine wpList_bld1 rfl rfl rfl (buildGoE 142) ?_)
        | ((with_reducible show wpList _ _ _ ({ dst := some 38, op := _, type := _, pos := _, after := _, guard := _ } :: _) _ _); refine wpList_bld1 rfl rfl rfl (buildGoE 142) ?_)
        | ((with_reducible show wpList _ _ _ ({ dst := some 59, op := _, type := _, pos := _, after := _, guard := _ } :: _) _ _); refine wpList_bld1 rfl rfl rfl (buildGoE 142) ?_)
        | ((with_reducible show wpList _ _ _ ({ dst := some 67, op := _, type := _, pos := _, after := _, guard := _ } :: _) _ _); refine wpList_bld1 rfl rfl rfl (buildGoE 142) ?_)
        | ((with_reducible show wpList _ _ _ ({ dst := none, op := _, type := _, pos := _, after := _, guard := _ } :: _) _ _); refine wpList_put (vs := gotC (.error 142) K) rfl rfl rfl rfl c1 (gotC_size _ _) (by rw [sizeGo, gotC_size]) (one_gotC _ _) ?_; intro w7 ht7 b7))
      exact ret_blk rfl rfl rfl b7 aggGo (by rw [sizeGo, gotC_size]) ⟨by rw [HTE.out], (bstep HW1.out HW.out).trans (ht7.below _ HG.out)⟩
end Go.Proofs.YtiajmdmofjfdcaaGreatDoor
