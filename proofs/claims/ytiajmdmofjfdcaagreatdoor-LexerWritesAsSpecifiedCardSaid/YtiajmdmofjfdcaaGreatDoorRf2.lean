/-
  The law LexerWritesAsSpecified, walked. Conditions: the library's table of spaces stands.
-/
import Derived.Test.YtiajmdmofjfdcaaGreatDoorRd8
import Derived.Test.YtiajmdmofjfdcaaGreatDoorZt
namespace Go.Proofs.YtiajmdmofjfdcaaGreatDoor
set_option linter.unusedSimpArgs false
set_option linter.unusedVariables false
open Go.RowKit Lexr
set_option maxRecDepth 20000 in
set_option maxHeartbeats 16000000 in
theorem walkLexerWritesAsSpecified (A : Option Addr) (n c : Nat) (ts : List Tok) (w : World) (hnc : n ≤ c) (hcm : c ≤ maxLen) (hr : RdT w A n ts) (hn : ts.length = n) (hg : GTab w) : Calls Tryz.prog 6 #[.slice A n c] w (LawIs w) := by
  have HG := Lib.hid hg
  have HR := Lib.hid hr
  have HN := Lib.hid hn
  have HB := Lib.hid (Below.refl w.heap.size w)
  have hc9 : c ≤ 9223372036854775807 := hcm
  have hn9 : n ≤ 9223372036854775807 := Nat.le_trans hnc hc9
  clear hr hn hg hnc hcm hc9
  by_cases hbig : 100 < n
  · have d1 : decide ((100 : Int) < (n : Int)) = true := by rw [decide_eq_true_eq]; omega
    have d1n : decide (100 < n) = true := by rw [decide_eq_true_eq]; omega
    clear hbig
    go_enter Tryz.func6, Tryz.ntmps6
    go_wp2_with fail
    refine (sanity_any _ HG.out).mono ?_
    rintro e w9 ⟨rfl, hb9⟩
    go_wp2_with fail
    go_ret
    exact ⟨rfl, hb9⟩
  · have d1 : decide ((100 : Int) < (n : Int)) = false := by rw [decide_eq_false_iff_not]; omega
    have d1n : decide (100 < n) = false := by rw [decide_eq_false_iff_not]; omega
    have hn100 : n ≤ 100 := by omega
    clear hbig
    go_enter Tryz.func6, Tryz.ntmps6
    go_wp2_with fail
    go_loopw [3, 4, 5, 6] (fun v3 _ _ _ wl => ∃ k : Nat, k ≤ n ∧ v3 = .int .i64 k ∧ Hid (∀ j (h : j < ts.length), j < k → ts[j].s.length ≤ 300) ∧ Hid (Below w.heap.size w wl)) (fun v3 _ _ _ _ => n - (intOf v3).toNat)
    case atStart => exact ⟨0, Nat.zero_le _, rfl, Lib.hid (fun j h hj => by omega), HB⟩
    case round =>
      clear HB
      obtain ⟨k, hk, rfl, HV, HW⟩ := hrel
      by_cases hlt : k < n
      · have hkl : k < ts.length := by rw [HN.out]; exact hlt
        obtain ⟨ad, rfl, -⟩ := RdT.get HR.out hkl
        have HC : Hid (∀ W, Below w.heap.size w W → ∀ j u, (tokL ts[k])[j]? = some u → W.cell? ((ad.add (k * 3)).add j) = some u) := Lib.hid (fun W hW => by
          obtain ⟨_, e, h⟩ := RdT.get (HR.out.below hW) hkl
          injection e with e
          subst e
          exact h)
        have HNV : Hid (ts[k].s.length ≤ 300 → ∀ j (h : j < ts.length), j < k + 1 → ts[j].s.length ≤ 300) := Lib.hid (fun h j hj hjk => by
          by_cases e : j = k
          · subst e; exact h
          · exact HV.out j hj (by omega))
        generalize ts[k] = x at *
        clear hkl
        have hc := HC.out _ HW.out
        have e2 := tok_c2 hc
        obtain ⟨sl, hsl⟩ : ∃ sl, x.s.length = sl := ⟨_, rfl⟩
        have hz1 : x.s.toArray.size = sl := by rw [List.size_toArray, hsl]
        have hz2 : (⟨x.s.toArray⟩ : ByteArray).size = sl := by rw [bts_size, hsl]
        have HSL := Lib.hid hsl
        clear hc hsl
        by_cases h300 : 300 < sl
        · have d3 : decide ((300 : Int) < (sl : Int)) = true := by rw [decide_eq_true_eq]; omega
          have d3n : decide (300 < sl) = true := by rw [decide_eq_true_eq]; omega
          clear h300
          go_wp2_with ((with_reducible show wpList _ _ _ ({ dst := some 24, op := _, type := _, pos := _, after := _, guard := _ } :: _) _ _); refine wpList_loadV (by rfl) rfl rfl (by kernel_rfl) e2 ?_)
          refine (sanity_any _ (HG.out.below HW.out)).mono ?_
          rintro e w9 ⟨rfl, hb9⟩
          go_wp2_with fail
          go_ret
          exact ⟨rfl, bstep HW.out hb9⟩
        · have d3 : decide ((300 : Int) < (sl : Int)) = false := by rw [decide_eq_false_iff_not]; omega
          have d3n : decide (300 < sl) = false := by rw [decide_eq_false_iff_not]; omega
          have HNV2 := Lib.hid (HNV.out (by rw [HSL.out]; omega))
          have HV1 := Lib.hid (fun W hg => value_any x W hg (by rw [HSL.out]; omega))
          have HV2 := Lib.hid (fun W => refValue_any x W (by rw [HSL.out]; omega))
          clear h300 HNV
          go_upto_region 8 with ((with_reducible show wpList _ _ _ ({ dst := some 24, op := _, type := _, pos := _, after := _, guard := _ } :: _) _ _); refine wpList_loadV (by rfl) rfl rfl (by kernel_rfl) e2 ?_)
          have hc := HC.out _ HW.out
          clear e2
          go_wp2_with ((with_reducible show wpList _ _ _ ({ dst := some 32, op := _, type := _, pos := _, after := _, guard := _ } :: _) _ _); refine wpList_loadK (us := tokL x) rfl rfl rfl aggLx (by rw [sizeLx]; rfl) hc ?_)
          obtain ⟨⟨nv, ne⟩, hv⟩ : ∃ p, valueT x.kind x.s = p := ⟨_, rfl⟩
          rw [hv] at HV1 HV2
          dsimp only at HV1
          clear hc hv
          refine (HV1.out _ (HG.out.below HW.out)).mono ?_
          rintro e w3 ⟨rfl, hb3⟩
          have HW3 := Lib.hid (bstep HW.out hb3)
          have hc3 := HC.out _ HW3.out
          clear hb3
          go_wp2_with ((with_reducible show wpList _ _ _ ({ dst := some 39, op := _, type := _, pos := _, after := _, guard := _ } :: _) _ _); refine wpList_loadK (us := tokL x) rfl rfl rfl aggLx (by rw [sizeLx]; rfl) hc3 ?_)
          refine (HV2.out _).mono ?_
          rintro e w4 ⟨rfl, hb4⟩
          have HW4 := Lib.hid (bstep HW3.out hb4)
          clear hc3 hb4
          go_upto_region 10 with (first
            | ((with_reducible show wpList _ _ _ ({ dst := some 6, op := _, type := _, pos := _, after := _, guard := _ } :: _) _ _); refine wpList_new (cs := nuC (0, 0)) rfl rfl zeroNu ?_; intro w5 g5 hg5 b5 hb5 lt5; have HG5 : Hid (w.heap.size ≤ g5) := Lib.hid (by have := HW4.out.size; omega); clear hg5 lt5)
            | ((with_reducible show wpList _ _ _ ({ dst := none, op := _, type := _, pos := _, after := _, guard := _ } :: _) _ _); refine wpList_put (vs := nuC (nv, ne)) rfl rfl rfl rfl b5 rfl (by rw [sizeNu]; rfl) (one_nuC _) ?_; intro w6 ht6 b6))
          have c0 : w6.cell? ⟨g5, 0, none⟩ = some (.int .i64 nv) := by rw [b6.cell 0]; rfl
          have c1 : w6.cell? ⟨g5, 1, none⟩ = some (.int .i64 ne) := by rw [b6.cell 1]; rfl
          have HW6 : Hid (Below w.heap.size w w6) := Lib.hid ((bstep HW4.out hb5).trans (ht6.below _ HG5.out))
          have k0 : (nv != nv) = false := by simp
          have k1 : (ne != ne) = false := by simp
          clear b5 b6 hb5 ht6
          go_wp2_with (first
            | ((with_reducible show wpList _ _ _ ({ dst := some 43, op := _, type := _, pos := _, after := _, guard := _ } :: _) _ _); refine wpList_loadV (by rfl) rfl rfl (by kernel_rfl) c0 ?_)
            | ((with_reducible show wpList _ _ _ ({ dst := some 48, op := _, type := _, pos := _, after := _, guard := _ } :: _) _ _); refine wpList_loadV (by rfl) rfl rfl (by kernel_rfl) c1 ?_))
          exact ⟨⟨k + 1, by omega, by go_num, HNV2, HW6⟩, by simp [intOf]; omega⟩
      · obtain rfl : k = n := by omega
        have HS : Hid (∀ t ∈ ts, t.s.length ≤ 32768) := Lib.hid (fun t ht => by
          obtain ⟨j, hj, rfl⟩ := List.getElem_of_mem ht
          have := HV.out j hj (by rw [← HN.out]; exact hj)
          omega)
        have HT1 := Lib.hid (fun W hW hg => text_all ts A k c W hg (HR.out.below hW) HN.out (by omega) HS.out)
        have HT2 := Lib.hid (fun W (hW : Below w.heap.size w W) => refText_all ts A k c W (HR.out.below hW) HN.out (by omega) HS.out)
        obtain ⟨⟨P1, P2⟩, hP⟩ : ∃ P, textP ts = P := ⟨_, rfl⟩
        rw [hP] at HT1 HT2
        dsimp only at HT1
        clear hP HV
        go_wp2_with fail
        refine (HT1.out _ HW.out (HG.out.below HW.out)).mono ?_
        rintro e w3 ⟨rfl, hb3⟩
        have HW3 := Lib.hid (bstep HW.out hb3)
        clear hb3
        go_wp2_with fail
        refine (HT2.out _ HW3.out).mono ?_
        rintro e w4 ⟨rfl, hb4⟩
        have HW4 := Lib.hid (bstep HW3.out hb4)
        clear hb4
        go_wp2_with (first
          | ((with_reducible show wpList _ _ _ ({ dst := some 9, op := _, type := _, pos := _, after := _, guard := _ } :: _) _ _); refine wpList_new (cs := prtC ([], 0)) rfl rfl zeroPt ?_; intro w5 g5 hg5 b5 hb5 lt5; have HG5 : Hid (w.heap.size ≤ g5) := Lib.hid (by have := HW4.out.size; omega); clear hg5 lt5)
          | ((with_reducible show wpList _ _ _ ({ dst := none, op := _, type := _, pos := _, after := _, guard := _ } :: _) _ _); refine wpList_put (vs := prtC (P1, P2)) rfl rfl rfl rfl b5 rfl (by rw [sizePt]; rfl) (one_prtC _) ?_; intro w6 ht6 b6))
        have HW6 : Hid (Below w.heap.size w w6) := Lib.hid ((bstep HW4.out hb5).trans (ht6.below _ HG5.out))
        have HB6 := Lib.hid b6
        clear b5 b6 hb5 ht6
        refine (sanity_any _ (HG.out.below HW6.out)).mono ?_
        rintro e w7 ⟨rfl, hb7⟩
        have b7 := HB6.out.below hb7
        have c0 : w7.cell? ⟨g5, 0, none⟩ = some (.string ⟨P1.toArray⟩) := by rw [b7.cell 0]; rfl
        have c1 : w7.cell? ⟨g5, 1, none⟩ = some (.int .i64 P2) := by rw [b7.cell 1]; rfl
        have HW7 := Lib.hid (bstep HW6.out hb7)
        have he := eql_Bs P1 P1
        rw [decide_eq_true rfl] at he
        have k1 : (P2 == P2) = true := by simp
        clear hb7 b7
        go_wp2_with (first
          | ((with_reducible show wpList _ _ _ ({ dst := some 62, op := _, type := _, pos := _, after := _, guard := _ } :: _) _ _); refine wpList_loadV (by rfl) rfl rfl (by kernel_rfl) c0 ?_)
          | ((with_reducible show wpList _ _ _ ({ dst := some 63, op := _, type := _, pos := _, after := _, guard := _ } :: _) _ _); refine wpList_opG he (by rfl) rfl rfl rfl (fun W => by kernel_rfl) ?_)
          | ((with_reducible show wpList _ _ _ ({ dst := some 68, op := _, type := _, pos := _, after := _, guard := _ } :: _) _ _); refine wpList_loadV (by rfl) rfl rfl (by kernel_rfl) c1 ?_))
        go_ret
        exact ⟨rfl, HW7.out⟩
end Go.Proofs.YtiajmdmofjfdcaaGreatDoor
