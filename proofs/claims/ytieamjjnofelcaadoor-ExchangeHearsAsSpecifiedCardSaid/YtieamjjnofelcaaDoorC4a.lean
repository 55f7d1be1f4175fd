/-
  These texts, joined.
  The reference's Check of a parcel. Conditions: numbers of 128 bits; at most 1000 names; a text of at most 400 bytes.
  The reference's Add. Conditions: the stock's names stand in order; at most 1000 items; a text of at most 400 bytes; the table of constants stands.
  Small laws for the reference's Hear: rows and variables of different types, the place of a name. Conditions: none.
  The reference's has: whether a list has a name. Conditions: at most 100000 names.
  The reference's Hear. Conditions: the stock is valid, of at most 900 items; the parcel has at most 1000 names and a text of at most 200 bytes; the reference's table of constants stands.
-/
import Derived.Test.YtieamjjnofelcaaDoorB9
import Derived.Test.YtieamjjnofelcaaDoorB10
import Derived.Test.YtieamjjnofelcaaDoorB11
namespace Go.Proofs.YtieamjjnofelcaaDoor
set_option linter.unusedSimpArgs false
set_option linter.unusedVariables false
open Go.RowKit Exch
section
variable {P : Program} {w : World} {ops : Array Oper} {a : Act} {rest : List Oper} {o : Oper} {Q : Exit → Act → World → Prop}
theorem wpList_neqW (hw : Region.wanted o (yielded ops a.tmps) = true) {t u : TypeId} {x y : Operand} {vx vy v : Value} (ho : o.op = .binOp .neq t x y u) (hx : a.eval x = vx) (hy : a.eval y = vy)
    (hg : ∀ W, (eqGuard .neq t x y vx vy).run P W = .ok () W) (hr : (binOp .neq t vx vy).run P w = .ok v w) (h : wpList P ops Q rest (a.put o.dst v) w) : wpList P ops Q (o :: rest) a w := by
  refine wpList_want hw fun K hK => ?_
  unfold Oper.wp execOp
  simp only [ho, hx, hy, Sem.run_bind, hg, hr, Result.andThen_ok, Sem.run_pure]
  exact hK _ _ h
end
theorem isEmpty_size (t : ByteArray) : t.toList.isEmpty = decide (t.size = 0) := by
  have h : t.toList = t.data.toList := ByteArray.toList_eq t
  rw [h]
  have h2 : t.size = t.data.toList.length := by rw [Array.length_toList]; rfl
  rw [h2]
  cases t.data.toList <;> simp
set_option maxRecDepth 20000 in
set_option maxHeartbeats 8000000 in
theorem refCheck_any (P : Pa) (An : Option Addr) (nn cn : Nat) (w : World) (hv : P.v < 2 ^ 128) (hE : P.sum < 2 ^ 128) (hN : RdD w An nn P.names) (hnn : nn ≤ 1000) (hz : ∀ z ∈ P.names, z < 2 ^ 128) (ht : P.text.size ≤ 400) :
    Calls Tryd.prog 36 #[paV P An nn cn] w fun e w' => e = .returned (.int .i64 (checkP P)) ∧ Below w.heap.size w w' := by
  obtain ⟨V, hV⟩ : ∃ V, paC P An nn cn = V := ⟨_, rfl⟩
  obtain ⟨wa, hwa, hb0, q0⟩ := paBox w V
  have HWA := Lib.hid hwa
  clear hwa
  have HQ : Hid (∀ W, Blk W w.heap.size 47 V → W.cell? ⟨w.heap.size, 0, none⟩ = some (.int .i64 P.kind) ∧ W.cell? ⟨w.heap.size, 34, none⟩ = some (.int .i64 P.count) ∧ W.cell? ⟨w.heap.size, 35, none⟩ = some (.slice An nn cn) ∧ W.cell? ⟨w.heap.size, 36, none⟩ = some (.string P.text) ∧ (∀ j u, (pxL P.v P.len)[j]? = some u → W.cell? ((⟨w.heap.size, 1, none⟩ : Addr).add j) = some u) ∧ (∀ j u, (bv (dg P.sum))[j]? = some u → W.cell? ((⟨w.heap.size, 18, none⟩ : Addr).add j) = some u)) := Lib.hid (fun W h => by
    rw [← hV] at h
    exact ⟨h.paK, h.paN, h.paS, h.paT, h.paP, h.paD⟩)
  have HRT := Lib.hid (fun W => refRight_any P.v P.len W hv)
  have HUN : Hid (rightB P.v P.len = true → ∀ x, x < 2 ^ 128 → ∀ W, Calls Tryd.prog 24 #[pxV P.v P.len, dgV x] W fun e w' => e = .returned (.bool (under ⟨P.v, P.len.toNat⟩ x)) ∧ Below W.heap.size W w') := Lib.hid (fun h x hx W => by
    obtain ⟨h0, h1⟩ := (rightB_iff hv).1 h
    have := refUnder_any ⟨P.v, P.len.toNat⟩ x W h1 hx
    rw [show (((⟨P.v, P.len.toNat⟩ : Px).len : Nat) : Int) = P.len by show ((P.len.toNat : Nat) : Int) = _; omega] at this
    exact this)
  have HOR := Lib.hid (fun a b W ha hb => refLess_any a b W ha hb)
  have HPE := Lib.hid (fun W => neq_Px (n := P.len) (n' := 0) hv (show 0 < 2 ^ 128 by decide) W)
  have HDE := Lib.hid (fun W => neq_Dg hE (show 0 < 2 ^ 128 by decide) W)
  have HN := Lib.hid (hN.below hb0)
  have HNL := Lib.hid hN.len
  have HZ := Lib.hid hz
  obtain ⟨C, hC⟩ : ∃ C, checkP P = C := ⟨_, rfl⟩
  rw [hC]
  unfold checkP at hC
  obtain ⟨FB, hFB⟩ : ∃ B, fieldsB P = B := ⟨_, rfl⟩
  obtain ⟨RB, hRB⟩ : ∃ B, rightB P.v P.len = B := ⟨_, rfl⟩
  rw [hFB] at hC
  rw [hRB] at hC HRT HUN
  unfold fieldsB at hFB
  show Calls _ _ #[.agg (paC P An nn cn)] _ _
  rw [hV]
  clear hV hRB hz
  obtain ⟨K, v, len, sum, CT, ns, T⟩ := P
  dsimp only at *
  have hnl := hN.len
  rw [hnl] at hFB
  have HFB := Lib.hid hFB
  have HC := Lib.hid hC
  clear hC hv hE hN hFB hnl
  obtain ⟨c0, cN, cS, cT, cP, cD⟩ := HQ.out _ q0
  by_cases hk1 : K < 1
  · have hfin : Hid (C = 1) := Lib.hid (by rw [← HC.out, if_pos (Or.inl hk1)])
    have d1 : decide (K < 1) = true := by simpa using hk1
    clear cN cS cT cP cD
    go_enter Tryd.func36, Tryd.ntmps36
    go_upto_region 1 with (fail)
    change Code.wp _ _ _ _ (w.alloc (.cells V 47))
    rw [← HWA.out]
    go_wp2_with fail
    go_ret
    exact ⟨by rw [hfin.out]; rfl, hb0⟩
  have d1 : decide (K < 1) = false := by simpa using hk1
  by_cases hk4 : 4 < K
  · have hfin : Hid (C = 1) := Lib.hid (by rw [← HC.out, if_pos (Or.inr hk4)])
    have d4 : decide (4 < K) = true := by simpa using hk4
    clear cN cS cT cP cD
    go_enter Tryd.func36, Tryd.ntmps36
    go_upto_region 1 with (fail)
    change Code.wp _ _ _ _ (w.alloc (.cells V 47))
    rw [← HWA.out]
    go_wp2_with fail
    go_ret
    exact ⟨by rw [hfin.out]; rfl, hb0⟩
  have d4 : decide (4 < K) = false := by simpa using hk4
  have HC2 := HC.out
  rw [if_neg (by omega)] at HC2
  have HCC := Lib.hid HC2
  clear HC HC2 cN cS cT cP cD
  obtain ⟨Zx, hZx, hZs⟩ : ∃ Z : Array Value, (∀ W, (zeroValue 28).run Tryd.prog W = .ok (.agg Z) W) ∧ Z.size = 17 := ⟨_, zeroPx, rfl⟩
  go_enter Tryd.func36, Tryd.ntmps36
  go_upto_region 1 with (fail)
  change Code.wp _ _ _ _ (w.alloc (.cells V 47))
  rw [← HWA.out]
  go_upto_region 5 with first
    | ((with_reducible show wpList _ _ _ (⟨some 15, _, _, _, _, _⟩ :: _) _ _); refine wpList_build0W (by rfl) rfl build_px0 ?_)
    | ((with_reducible show wpList _ _ _ (⟨some 16, _, _, _, _, _⟩ :: _) _ _); refine wpList_build0W (by rfl) rfl build_dg0 ?_)
    | ((with_reducible show wpList _ _ _ (⟨some 3, _, _, _, _, _⟩ :: _) _ _); refine wpList_new (cs := Zx) rfl rfl hZx ?_; intro w3 g3 hg3 b3 hb3 lt3; have HG3 := Lib.hid hg3; clear hg3)
    | ((with_reducible show wpList _ _ _ (⟨some 4, _, _, _, _, _⟩ :: _) _ _); refine wpList_new (cs := dgC 0) rfl rfl zeroDg0 ?_; intro w4 g4 hg4 b4 hb4 lt4; have HG4 := Lib.hid hg4; clear hg4)
    | ((with_reducible show wpList _ _ _ ({ dst := none, op := Op.store _ (Operand.tmp 3) _, type := _, pos := _, after := _, guard := _ } :: _) _ _); refine wpList_put (vs := pxC 0 0) rfl rfl rfl rfl b3 (by rw [pxC_size, hZs]) (by rw [sizePx, pxC_size]) (one_pxC _ _) ?_; intro w3b ht3 b3b)
    | ((with_reducible show wpList _ _ _ ({ dst := none, op := Op.store _ (Operand.tmp 4) _, type := _, pos := _, after := _, guard := _ } :: _) _ _); refine wpList_put (vs := dgC 0) rfl rfl rfl rfl b4 rfl (by rw [sizeDg, dgC_size]) (one_dgC _) ?_; intro w4b ht4 b4b)
  have hbA : Below wa.heap.size wa w3b := hb3.trans (ht3.below _ (by have := HG3.out; omega))
  have hbB : Below w3b.heap.size w3b w4b := hb4.trans (ht4.below _ (by have := HG4.out; omega))
  replace b3b := b3b.below hbB
  replace q0 := q0.below (bstep hbA hbB)
  have HN2 := Lib.hid (HN.out.below (bstep hbA hbB))
  replace hb0 := bstep hb0 (bstep hbA hbB)
  clear hbA hbB hb3 hb4 ht3 ht4 b3 b4 HG3 HG4 lt3 lt4 c0 hZx hZs HN
  obtain ⟨c0, cN, cS, cT, cP, cD⟩ := HQ.out _ q0
  try simp only [nrm]
  go_cut [68] (fun v68 wx => v68 = .bool (!FB) ∧ wx = w4b)
  case first =>
    have cz := px_cells b3b
    have dz := blk_cells b4b
    have hpe := HPE.out w4b
    have hde := HDE.out w4b
    have hTe := isEmpty_size T
    clear HPE HDE HQ HRT HUN HOR HNL HZ HCC HN2 q0 b3b b4b HWA
    rcases (show K = 1 ∨ K = 2 ∨ K = 3 ∨ K = 4 by omega) with rfl | rfl | rfl | rfl
    · skip
      by_cases hn : nn = 0
      · have dn0 : decide ((0 : Int) < (nn : Int)) = false := by simp; omega
        have dn1 : decide (0 < nn) = false := by simp; omega
        have HNN := Lib.hid hn
        clear hn
        by_cases hts : T.size = 0
        · have dn2 : decide ((0 : Int) < (T.size : Int)) = false := by rw [decide_eq_false_iff_not]; omega
          have dn3 : decide (0 < T.size) = false := by rw [decide_eq_false_iff_not]; omega
          have HTS := Lib.hid hts
          clear hts
          go_wp2_with fail
          go_meet
          exact ⟨by rw [← HFB.out]; simp [fieldsK, hTe, HNN.out, HTS.out], rfl⟩
        · have dn2 : decide ((0 : Int) < (T.size : Int)) = true := by rw [decide_eq_true_eq]; omega
          have dn3 : decide (0 < T.size) = true := by rw [decide_eq_true_eq]; omega
          go_wp2_with fail
          go_meet
          exact ⟨by rw [← HFB.out]; simp [fieldsK, hTe, HNN.out, hts], rfl⟩
      · have dn0 : decide ((0 : Int) < (nn : Int)) = true := by simp; omega
        have dn1 : decide (0 < nn) = true := by simp; omega
        go_wp2_with fail
        go_meet
        exact ⟨by rw [← HFB.out]; simp [fieldsK, hTe, hn], rfl⟩
    · skip
      by_cases hs : sum = 0
      · rw [decide_eq_true hs] at hde
        have HS := Lib.hid hs
        clear hs
        by_cases hcc : CT = 0
        · have hc : (CT != 0) = false := by simp [hcc]
          have HCC0 := Lib.hid hcc
          clear hcc
          by_cases hts : T.size = 0
          · have dn2 : decide ((0 : Int) < (T.size : Int)) = false := by rw [decide_eq_false_iff_not]; omega
            have dn3 : decide (0 < T.size) = false := by rw [decide_eq_false_iff_not]; omega
            have HTS := Lib.hid hts
            clear hts
            go_wp2_with first
              | ((with_reducible show wpList _ _ _ (⟨some 32, _, _, _, _, _⟩ :: _) _ _); refine wpList_loadKW (us := bv (dg sum)) (by rfl) rfl rfl aggDg (by rw [sizeDg, bv_dg_len]) cD ?_)
              | ((with_reducible show wpList _ _ _ (⟨some 33, _, _, _, _, _⟩ :: _) _ _); refine wpList_loadKW (us := bv (dg 0)) (by rfl) rfl rfl aggDg (by rw [sizeDg, bv_dg_len]) dz ?_)
              | ((with_reducible show wpList _ _ _ (⟨some 34, _, _, _, _, _⟩ :: _) _ _); refine wpList_neqW (by rfl) rfl rfl rfl (fun W => by kernel_rfl) hde ?_)
            go_meet
            exact ⟨by rw [← HFB.out]; simp [fieldsK, hTe, HS.out, HCC0.out, HTS.out], rfl⟩
          · have dn2 : decide ((0 : Int) < (T.size : Int)) = true := by rw [decide_eq_true_eq]; omega
            have dn3 : decide (0 < T.size) = true := by rw [decide_eq_true_eq]; omega
            go_wp2_with first
              | ((with_reducible show wpList _ _ _ (⟨some 32, _, _, _, _, _⟩ :: _) _ _); refine wpList_loadKW (us := bv (dg sum)) (by rfl) rfl rfl aggDg (by rw [sizeDg, bv_dg_len]) cD ?_)
              | ((with_reducible show wpList _ _ _ (⟨some 33, _, _, _, _, _⟩ :: _) _ _); refine wpList_loadKW (us := bv (dg 0)) (by rfl) rfl rfl aggDg (by rw [sizeDg, bv_dg_len]) dz ?_)
              | ((with_reducible show wpList _ _ _ (⟨some 34, _, _, _, _, _⟩ :: _) _ _); refine wpList_neqW (by rfl) rfl rfl rfl (fun W => by kernel_rfl) hde ?_)
            go_meet
            exact ⟨by rw [← HFB.out]; simp [fieldsK, hTe, HS.out, HCC0.out, hts], rfl⟩
        · have hc : (CT != 0) = true := by simpa using hcc
          go_wp2_with first
            | ((with_reducible show wpList _ _ _ (⟨some 32, _, _, _, _, _⟩ :: _) _ _); refine wpList_loadKW (us := bv (dg sum)) (by rfl) rfl rfl aggDg (by rw [sizeDg, bv_dg_len]) cD ?_)
            | ((with_reducible show wpList _ _ _ (⟨some 33, _, _, _, _, _⟩ :: _) _ _); refine wpList_loadKW (us := bv (dg 0)) (by rfl) rfl rfl aggDg (by rw [sizeDg, bv_dg_len]) dz ?_)
            | ((with_reducible show wpList _ _ _ (⟨some 34, _, _, _, _, _⟩ :: _) _ _); refine wpList_neqW (by rfl) rfl rfl rfl (fun W => by kernel_rfl) hde ?_)
          go_meet
          exact ⟨by rw [← HFB.out]; simp [fieldsK, hTe, HS.out, hcc], rfl⟩
      · rw [decide_eq_false hs] at hde
        go_wp2_with first
          | ((with_reducible show wpList _ _ _ (⟨some 32, _, _, _, _, _⟩ :: _) _ _); refine wpList_loadKW (us := bv (dg sum)) (by rfl) rfl rfl aggDg (by rw [sizeDg, bv_dg_len]) cD ?_)
          | ((with_reducible show wpList _ _ _ (⟨some 33, _, _, _, _, _⟩ :: _) _ _); refine wpList_loadKW (us := bv (dg 0)) (by rfl) rfl rfl aggDg (by rw [sizeDg, bv_dg_len]) dz ?_)
          | ((with_reducible show wpList _ _ _ (⟨some 34, _, _, _, _, _⟩ :: _) _ _); refine wpList_neqW (by rfl) rfl rfl rfl (fun W => by kernel_rfl) hde ?_)
        go_meet
        exact ⟨by rw [← HFB.out]; simp [fieldsK, hTe, hs], rfl⟩
    · skip
      cases he : eqP v len 0 0
      · rw [he] at hpe
        go_wp2_with first
          | ((with_reducible show wpList _ _ _ (⟨some 22, _, _, _, _, _⟩ :: _) _ _); refine wpList_loadKW (us := pxL v len) (by rfl) rfl rfl aggPx (by rw [sizePx, pxL_len]) cP ?_)
          | ((with_reducible show wpList _ _ _ (⟨some 23, _, _, _, _, _⟩ :: _) _ _); refine wpList_loadKW (us := pxL 0 0) (by rfl) rfl rfl aggPx (by rw [sizePx, pxL_len]) cz ?_)
          | ((with_reducible show wpList _ _ _ (⟨some 24, _, _, _, _, _⟩ :: _) _ _); refine wpList_neqW (by rfl) rfl rfl rfl (fun W => by kernel_rfl) hpe ?_)
        go_meet
        exact ⟨by rw [← HFB.out]; simp [fieldsK, hTe, he], rfl⟩
      · rw [he] at hpe
        by_cases hs : sum = 0
        · rw [decide_eq_true hs] at hde
          have HS := Lib.hid hs
          clear hs
          by_cases hcc : CT = 0
          · have hc : (CT != 0) = false := by simp [hcc]
            have HCC0 := Lib.hid hcc
            clear hcc
            by_cases hts : T.size = 0
            · have dn2 : decide ((0 : Int) < (T.size : Int)) = false := by rw [decide_eq_false_iff_not]; omega
              have dn3 : decide (0 < T.size) = false := by rw [decide_eq_false_iff_not]; omega
              have HTS := Lib.hid hts
              clear hts
              go_wp2_with first
                | ((with_reducible show wpList _ _ _ (⟨some 22, _, _, _, _, _⟩ :: _) _ _); refine wpList_loadKW (us := pxL v len) (by rfl) rfl rfl aggPx (by rw [sizePx, pxL_len]) cP ?_)
                | ((with_reducible show wpList _ _ _ (⟨some 23, _, _, _, _, _⟩ :: _) _ _); refine wpList_loadKW (us := pxL 0 0) (by rfl) rfl rfl aggPx (by rw [sizePx, pxL_len]) cz ?_)
                | ((with_reducible show wpList _ _ _ (⟨some 24, _, _, _, _, _⟩ :: _) _ _); refine wpList_neqW (by rfl) rfl rfl rfl (fun W => by kernel_rfl) hpe ?_)
                | ((with_reducible show wpList _ _ _ (⟨some 32, _, _, _, _, _⟩ :: _) _ _); refine wpList_loadKW (us := bv (dg sum)) (by rfl) rfl rfl aggDg (by rw [sizeDg, bv_dg_len]) cD ?_)
                | ((with_reducible show wpList _ _ _ (⟨some 33, _, _, _, _, _⟩ :: _) _ _); refine wpList_loadKW (us := bv (dg 0)) (by rfl) rfl rfl aggDg (by rw [sizeDg, bv_dg_len]) dz ?_)
                | ((with_reducible show wpList _ _ _ (⟨some 34, _, _, _, _, _⟩ :: _) _ _); refine wpList_neqW (by rfl) rfl rfl rfl (fun W => by kernel_rfl) hde ?_)
              go_meet
              exact ⟨by rw [← HFB.out]; simp [fieldsK, hTe, he, HS.out, HCC0.out, HTS.out], rfl⟩
            · have dn2 : decide ((0 : Int) < (T.size : Int)) = true := by rw [decide_eq_true_eq]; omega
              have dn3 : decide (0 < T.size) = true := by rw [decide_eq_true_eq]; omega
              go_wp2_with first
                | ((with_reducible show wpList _ _ _ (⟨some 22, _, _, _, _, _⟩ :: _) _ _); refine wpList_loadKW (us := pxL v len) (by rfl) rfl rfl aggPx (by rw [sizePx, pxL_len]) cP ?_)
                | ((with_reducible show wpList _ _ _ (⟨some 23, _, _, _, _, _⟩ :: _) _ _); refine wpList_loadKW (us := pxL 0 0) (by rfl) rfl rfl aggPx (by rw [sizePx, pxL_len]) cz ?_)
                | ((with_reducible show wpList _ _ _ (⟨some 24, _, _, _, _, _⟩ :: _) _ _); refine wpList_neqW (by rfl) rfl rfl rfl (fun W => by kernel_rfl) hpe ?_)
                | ((with_reducible show wpList _ _ _ (⟨some 32, _, _, _, _, _⟩ :: _) _ _); refine wpList_loadKW (us := bv (dg sum)) (by rfl) rfl rfl aggDg (by rw [sizeDg, bv_dg_len]) cD ?_)
                | ((with_reducible show wpList _ _ _ (⟨some 33, _, _, _, _, _⟩ :: _) _ _); refine wpList_loadKW (us := bv (dg 0)) (by rfl) rfl rfl aggDg (by rw [sizeDg, bv_dg_len]) dz ?_)
                | ((with_reducible show wpList _ _ _ (⟨some 34, _, _, _, _, _⟩ :: _) _ _); refine wpList_neqW (by rfl) rfl rfl rfl (fun W => by kernel_rfl) hde ?_)
              go_meet
              exact ⟨by rw [← HFB.out]; simp [fieldsK, hTe, he, HS.out, HCC0.out, hts], rfl⟩
          · have hc : (CT != 0) = true := by simpa using hcc
            go_wp2_with first
              | ((with_reducible show wpList _ _ _ (⟨some 22, _, _, _, _, _⟩ :: _) _ _); refine wpList_loadKW (us := pxL v len) (by rfl) rfl rfl aggPx (by rw [sizePx, pxL_len]) cP ?_)
              | ((with_reducible show wpList _ _ _ (⟨some 23, _, _, _, _, _⟩ :: _) _ _); refine wpList_loadKW (us := pxL 0 0) (by rfl) rfl rfl aggPx (by rw [sizePx, pxL_len]) cz ?_)
              | ((with_reducible show wpList _ _ _ (⟨some 24, _, _, _, _, _⟩ :: _) _ _); refine wpList_neqW (by rfl) rfl rfl rfl (fun W => by kernel_rfl) hpe ?_)
              | ((with_reducible show wpList _ _ _ (⟨some 32, _, _, _, _, _⟩ :: _) _ _); refine wpList_loadKW (us := bv (dg sum)) (by rfl) rfl rfl aggDg (by rw [sizeDg, bv_dg_len]) cD ?_)
              | ((with_reducible show wpList _ _ _ (⟨some 33, _, _, _, _, _⟩ :: _) _ _); refine wpList_loadKW (us := bv (dg 0)) (by rfl) rfl rfl aggDg (by rw [sizeDg, bv_dg_len]) dz ?_)
              | ((with_reducible show wpList _ _ _ (⟨some 34, _, _, _, _, _⟩ :: _) _ _); refine wpList_neqW (by rfl) rfl rfl rfl (fun W => by kernel_rfl) hde ?_)
            go_meet
            exact ⟨by rw [← HFB.out]; simp [fieldsK, hTe, he, HS.out, hcc], rfl⟩
        · rw [decide_eq_false hs] at hde
          go_wp2_with first
            | ((with_reducible show wpList _ _ _ (⟨some 22, _, _, _, _, _⟩ :: _) _ _); refine wpList_loadKW (us := pxL v len) (by rfl) rfl rfl aggPx (by rw [sizePx, pxL_len]) cP ?_)
            | ((with_reducible show wpList _ _ _ (⟨some 23, _, _, _, _, _⟩ :: _) _ _); refine wpList_loadKW (us := pxL 0 0) (by rfl) rfl rfl aggPx (by rw [sizePx, pxL_len]) cz ?_)
            | ((with_reducible show wpList _ _ _ (⟨some 24, _, _, _, _, _⟩ :: _) _ _); refine wpList_neqW (by rfl) rfl rfl rfl (fun W => by kernel_rfl) hpe ?_)
            | ((with_reducible show wpList _ _ _ (⟨some 32, _, _, _, _, _⟩ :: _) _ _); refine wpList_loadKW (us := bv (dg sum)) (by rfl) rfl rfl aggDg (by rw [sizeDg, bv_dg_len]) cD ?_)
            | ((with_reducible show wpList _ _ _ (⟨some 33, _, _, _, _, _⟩ :: _) _ _); refine wpList_loadKW (us := bv (dg 0)) (by rfl) rfl rfl aggDg (by rw [sizeDg, bv_dg_len]) dz ?_)
            | ((with_reducible show wpList _ _ _ (⟨some 34, _, _, _, _, _⟩ :: _) _ _); refine wpList_neqW (by rfl) rfl rfl rfl (fun W => by kernel_rfl) hde ?_)
          go_meet
          exact ⟨by rw [← HFB.out]; simp [fieldsK, hTe, he, hs], rfl⟩
    · skip
      cases he : eqP v len 0 0
      · rw [he] at hpe
        go_wp2_with first
          | ((with_reducible show wpList _ _ _ (⟨some 22, _, _, _, _, _⟩ :: _) _ _); refine wpList_loadKW (us := pxL v len) (by rfl) rfl rfl aggPx (by rw [sizePx, pxL_len]) cP ?_)
          | ((with_reducible show wpList _ _ _ (⟨some 23, _, _, _, _, _⟩ :: _) _ _); refine wpList_loadKW (us := pxL 0 0) (by rfl) rfl rfl aggPx (by rw [sizePx, pxL_len]) cz ?_)
          | ((with_reducible show wpList _ _ _ (⟨some 24, _, _, _, _, _⟩ :: _) _ _); refine wpList_neqW (by rfl) rfl rfl rfl (fun W => by kernel_rfl) hpe ?_)
        go_meet
        exact ⟨by rw [← HFB.out]; simp [fieldsK, hTe, he], rfl⟩
      · rw [he] at hpe
        by_cases hs : sum = 0
        · rw [decide_eq_true hs] at hde
          have HS := Lib.hid hs
          clear hs
          by_cases hcc : CT = 0
          · have hc : (CT != 0) = false := by simp [hcc]
            have HCC0 := Lib.hid hcc
            clear hcc
            by_cases hn : nn = 0
            · have dn0 : decide ((0 : Int) < (nn : Int)) = false := by simp; omega
              have dn1 : decide (0 < nn) = false := by simp; omega
              have HNN := Lib.hid hn
              clear hn
              go_wp2_with first
                | ((with_reducible show wpList _ _ _ (⟨some 22, _, _, _, _, _⟩ :: _) _ _); refine wpList_loadKW (us := pxL v len) (by rfl) rfl rfl aggPx (by rw [sizePx, pxL_len]) cP ?_)
                | ((with_reducible show wpList _ _ _ (⟨some 23, _, _, _, _, _⟩ :: _) _ _); refine wpList_loadKW (us := pxL 0 0) (by rfl) rfl rfl aggPx (by rw [sizePx, pxL_len]) cz ?_)
                | ((with_reducible show wpList _ _ _ (⟨some 24, _, _, _, _, _⟩ :: _) _ _); refine wpList_neqW (by rfl) rfl rfl rfl (fun W => by kernel_rfl) hpe ?_)
                | ((with_reducible show wpList _ _ _ (⟨some 32, _, _, _, _, _⟩ :: _) _ _); refine wpList_loadKW (us := bv (dg sum)) (by rfl) rfl rfl aggDg (by rw [sizeDg, bv_dg_len]) cD ?_)
                | ((with_reducible show wpList _ _ _ (⟨some 33, _, _, _, _, _⟩ :: _) _ _); refine wpList_loadKW (us := bv (dg 0)) (by rfl) rfl rfl aggDg (by rw [sizeDg, bv_dg_len]) dz ?_)
                | ((with_reducible show wpList _ _ _ (⟨some 34, _, _, _, _, _⟩ :: _) _ _); refine wpList_neqW (by rfl) rfl rfl rfl (fun W => by kernel_rfl) hde ?_)
              go_meet
              exact ⟨by rw [← HFB.out]; simp [fieldsK, hTe, he, HS.out, HCC0.out, HNN.out], rfl⟩
            · have dn0 : decide ((0 : Int) < (nn : Int)) = true := by simp; omega
              have dn1 : decide (0 < nn) = true := by simp; omega
              go_wp2_with first
                | ((with_reducible show wpList _ _ _ (⟨some 22, _, _, _, _, _⟩ :: _) _ _); refine wpList_loadKW (us := pxL v len) (by rfl) rfl rfl aggPx (by rw [sizePx, pxL_len]) cP ?_)
                | ((with_reducible show wpList _ _ _ (⟨some 23, _, _, _, _, _⟩ :: _) _ _); refine wpList_loadKW (us := pxL 0 0) (by rfl) rfl rfl aggPx (by rw [sizePx, pxL_len]) cz ?_)
                | ((with_reducible show wpList _ _ _ (⟨some 24, _, _, _, _, _⟩ :: _) _ _); refine wpList_neqW (by rfl) rfl rfl rfl (fun W => by kernel_rfl) hpe ?_)
                | ((with_reducible show wpList _ _ _ (⟨some 32, _, _, _, _, _⟩ :: _) _ _); refine wpList_loadKW (us := bv (dg sum)) (by rfl) rfl rfl aggDg (by rw [sizeDg, bv_dg_len]) cD ?_)
                | ((with_reducible show wpList _ _ _ (⟨some 33, _, _, _, _, _⟩ :: _) _ _); refine wpList_loadKW (us := bv (dg 0)) (by rfl) rfl rfl aggDg (by rw [sizeDg, bv_dg_len]) dz ?_)
                | ((with_reducible show wpList _ _ _ (⟨some 34, _, _, _, _, _⟩ :: _) _ _); refine wpList_neqW (by rfl) rfl rfl rfl (fun W => by kernel_rfl) hde ?_)
              go_meet
              exact ⟨by rw [← HFB.out]; simp [fieldsK, hTe, he, HS.out, HCC0.out, hn], rfl⟩
          · have hc : (CT != 0) = true := by simpa using hcc
            go_wp2_with first
              | ((with_reducible show wpList _ _ _ (⟨some 22, _, _, _, _, _⟩ :: _) _ _); refine wpList_loadKW (us := pxL v len) (by rfl) rfl rfl aggPx (by rw [sizePx, pxL_len]) cP ?_)
              | ((with_reducible show wpList _ _ _ (⟨some 23, _, _, _, _, _⟩ :: _) _ _); refine wpList_loadKW (us := pxL 0 0) (by rfl) rfl rfl aggPx (by rw [sizePx, pxL_len]) cz ?_)
              | ((with_reducible show wpList _ _ _ (⟨some 24, _, _, _, _, _⟩ :: _) _ _); refine wpList_neqW (by rfl) rfl rfl rfl (fun W => by kernel_rfl) hpe ?_)
              | ((with_reducible show wpList _ _ _ (⟨some 32, _, _, _, _, _⟩ :: _) _ _); refine wpList_loadKW (us := bv (dg sum)) (by rfl) rfl rfl aggDg (by rw [sizeDg, bv_dg_len]) cD ?_)
              | ((with_reducible show wpList _ _ _ (⟨some 33, _, _, _, _, _⟩ :: _) _ _); refine wpList_loadKW (us := bv (dg 0)) (by rfl) rfl rfl aggDg (by rw [sizeDg, bv_dg_len]) dz ?_)
              | ((with_reducible show wpList _ _ _ (⟨some 34, _, _, _, _, _⟩ :: _) _ _); refine wpList_neqW (by rfl) rfl rfl rfl (fun W => by kernel_rfl) hde ?_)
            go_meet
            exact ⟨by rw [← HFB.out]; simp [fieldsK, hTe, he, HS.out, hcc], rfl⟩
        · rw [decide_eq_false hs] at hde
          go_wp2_with first
            | ((with_reducible show wpList _ _ _ (⟨some 22, _, _, _, _, _⟩ :: _) _ _); refine wpList_loadKW (us := pxL v len) (by rfl) rfl rfl aggPx (by rw [sizePx, pxL_len]) cP ?_)
            | ((with_reducible show wpList _ _ _ (⟨some 23, _, _, _, _, _⟩ :: _) _ _); refine wpList_loadKW (us := pxL 0 0) (by rfl) rfl rfl aggPx (by rw [sizePx, pxL_len]) cz ?_)
            | ((with_reducible show wpList _ _ _ (⟨some 24, _, _, _, _, _⟩ :: _) _ _); refine wpList_neqW (by rfl) rfl rfl rfl (fun W => by kernel_rfl) hpe ?_)
            | ((with_reducible show wpList _ _ _ (⟨some 32, _, _, _, _, _⟩ :: _) _ _); refine wpList_loadKW (us := bv (dg sum)) (by rfl) rfl rfl aggDg (by rw [sizeDg, bv_dg_len]) cD ?_)
            | ((with_reducible show wpList _ _ _ (⟨some 33, _, _, _, _, _⟩ :: _) _ _); refine wpList_loadKW (us := bv (dg 0)) (by rfl) rfl rfl aggDg (by rw [sizeDg, bv_dg_len]) dz ?_)
            | ((with_reducible show wpList _ _ _ (⟨some 34, _, _, _, _, _⟩ :: _) _ _); refine wpList_neqW (by rfl) rfl rfl rfl (fun W => by kernel_rfl) hde ?_)
          go_meet
          exact ⟨by rw [← HFB.out]; simp [fieldsK, hTe, he, hs], rfl⟩
  case rest =>
    obtain ⟨rfl, hwc⟩ := hcut
    subst hwc
    clear HPE HDE b3b b4b cD HFB
    cases FB
    · have hfin : Hid (C = 3) := Lib.hid (by rw [← HCC.out]; rfl)
      go_wp2_with fail
      go_ret
      exact ⟨by rw [hfin.out]; rfl, hb0⟩
    go_wp2_with ((with_reducible show wpList _ _ _ (⟨some 70, _, _, _, _, _⟩ :: _) _ _); refine wpList_loadK (us := pxL v len) rfl rfl rfl aggPx (by rw [sizePx, pxL_len]) cP ?_)
    refine (HRT.out _).mono ?_
    rintro e w4 ⟨rfl, hb4⟩
    replace q0 := q0.below hb4
    replace hb0 := bstep hb0 hb4
    have HN4 := Lib.hid (HN2.out.below hb4)
    clear HRT HN2 c0 cN cS cT cP hb4
    obtain ⟨c0, cN, cS, cT, cP, -⟩ := HQ.out _ q0
    cases RB
    · have hfin : Hid (C = 3) := Lib.hid (by rw [← HCC.out]; rfl)
      go_wp2_with fail
      go_ret
      exact ⟨by rw [hfin.out]; rfl, hb0⟩
    by_cases hct0 : CT < 0
    · have dct : decide (CT < 0) = true := by simpa using hct0
      have hfin : Hid (C = 3) := Lib.hid (by rw [← HCC.out, show decide (0 ≤ CT) = false by simp; omega]; rfl)
      go_wp2_with fail
      go_ret
      exact ⟨by rw [hfin.out]; rfl, hb0⟩
    have dct : decide (CT < 0) = false := by simpa using hct0
    by_cases hct1 : 65536 < CT
    · have dct1 : decide (65536 < CT) = true := by simpa using hct1
      have hfin : Hid (C = 3) := Lib.hid (by rw [← HCC.out, show decide (CT ≤ 65536) = false by simp; omega, Bool.false_and, Bool.and_false]; rfl)
      go_wp2_with fail
      go_ret
      exact ⟨by rw [hfin.out]; rfl, hb0⟩
    have dct1 : decide (65536 < CT) = false := by simpa using hct1
    have HV0 : Hid (C = if chk (undK K v len) (prevD ns 0) (ns.drop 0) = true then 0 else 3) := Lib.hid (by
      rw [← HCC.out, show decide (CT ≤ 65536) = true by simp; omega, show decide (0 ≤ CT) = true by simp; omega]
      simp only [Bool.true_and]
      rfl)
    have HU := Lib.hid (HUN.out rfl)
    have dn : decide ((65536 : Int) < nn) = false := by simp; omega
    have dt : decide ((1048576 : Int) < T.size) = false := by simp; omega
    have htm : T.size ≤ 9223372036854775807 := by omega
    clear HUN HCC hct0 hct1
    go_wp2_with fail
    clear c0 cN cS cT cP dct dct1 dn dt htm
    have HND := Lib.hid (HN4.out)
    clear HN4
    go_loopw [6] (fun vk wr => ∃ k : Nat, k ≤ nn ∧ vk = .int .i64 k ∧ Below w4.heap.size w4 wr ∧ Hid (C = if chk (undK K v len) (prevD ns k) (ns.drop k) = true then 0 else 3)) (fun vk _ => nn - (intOf vk).toNat)
    case atStart => exact ⟨0, Nat.zero_le _, rfl, Below.refl _ _, HV0⟩
    case round =>
      obtain ⟨k, hk, rfl, hbw, HV⟩ := hrel
      clear HV0
      replace q0 := q0.below hbw
      replace hb0 := bstep hb0 hbw
      obtain ⟨c0, cN, cS, cT, cP, -⟩ := HQ.out _ q0
      clear cN cT
      by_cases hlt : k < nn
      · have hkl : k < ns.length := by have := HNL.out; omega
        obtain ⟨ad, had, hc⟩ := (HND.out.below hbw).elem hkl
        subst had
        have hv := HV.out
        rw [chk_step _ ns k hkl] at hv
        have hxw := HZ.out _ (List.getElem_mem hkl)
        have hpv : Hid (∀ j, k = j + 1 → ∃ hj : j < ns.length, prevD ns k = some ns[j] ∧ ns[j] < 2 ^ 128 ∧ ∀ W, Below w4.heap.size w4 W → ∀ i u, (bv (dg ns[j]))[i]? = some u → W.cell? ((ad.add (j * 16)).add i) = some u) := Lib.hid (fun j e => by
          have hj : j < ns.length := by omega
          refine ⟨hj, by subst e; exact prevD_succ ns j hj, HZ.out _ (List.getElem_mem hj), fun W hW i u hi => ?_⟩
          obtain ⟨ad', e', hc'⟩ := (HND.out.below hW).elem hj
          injection e' with e'
          subst e'
          exact hc' i u hi)
        have hp0 : Hid (k = 0 → prevD ns k = none) := Lib.hid (fun e => by subst e; rfl)
        generalize prevD ns k = P at *
        generalize ns[k] = x at *
        have HUX := Lib.hid (HU.out x hxw)
        go_upto_region 13 with fail
        have hS : Below wr.heap.size wr wr.drew := (Below.refl _ wr).drew
        rcases Nat.eq_zero_or_pos k with hk0 | hkp
        · have hpn := hp0.out hk0
          subst hpn
          simp only [Bool.true_and] at hv
          have dk : decide ((0 : Int) < k) = false := by simp; omega
          have dkn : decide (0 < k) = false := by simp; omega
          have HK0 := Lib.hid hk0
          clear hk0
          by_cases hK2 : K = 2
          · have d2 : decide (K = 2) = true := by simpa using hK2
            have d2b : (K == 2) = true := by simpa using hK2
            have hun : undK K v len x = under ⟨v, len.toNat⟩ x := by unfold undK; rw [d2]; rfl
            rw [hun] at hv
            have HK2 := Lib.hid hK2
            clear hun d2 hK2
            generalize under ⟨v, len.toNat⟩ x = U at *
            cases U
            · have HX3 : Hid (C = 3) := Lib.hid (by rw [hv]; simp)
              clear hv HV hpv hp0
              refine wp_region_TB (S := Below (wr).heap.size (wr)) 33 (by kernel_rfl) ?_
              refine WpT.take (i := 0) rfl (by kernel_rfl) (fun _ _ _ h => h) (.inl ⟨by rfl, fun w hSw => by clear hSw; go_simp; (try go_bits); (try rw [if_pos (by omega)]); (try with_reducible rfl)⟩) (hS) ?_
              try simp only [nrm]
              refine WpT.take (i := 1) rfl (by kernel_rfl) (fun _ _ _ h => h) (.inl ⟨by rfl, fun w hSw => by clear hSw; go_simp; (try go_bits); (try rw [if_pos (by omega)]); (try with_reducible rfl)⟩) (hS) ?_
              try simp only [nrm]
              refine WpT.take (i := 2) rfl (by kernel_rfl) (fun _ _ _ h => h) (.inl ⟨by rfl, fun w hSw => by clear hSw; go_simp; (try go_bits); (try rw [if_pos (by omega)]); (try with_reducible rfl)⟩) (hS) ?_
              try simp only [nrm]
              refine WpT.take (i := 3) rfl (by kernel_rfl) (fun _ _ _ h => h) (.inr ⟨by rfl, rfl⟩) (hS) ?_
              try simp only [nrm]
              refine WpT.take (i := 4) rfl (by kernel_rfl) (fun _ _ _ h => h) (.inr ⟨by rfl, rfl⟩) (hS) ?_
              try simp only [nrm]
              refine WpT.take (i := 5) rfl (by kernel_rfl) (fun _ _ _ h => h) (.inr ⟨by rfl, rfl⟩) (hS) ?_
              try simp only [nrm]
              refine WpT.take (i := 6) rfl (by kernel_rfl) (fun _ _ _ h => h) (.inr ⟨by rfl, rfl⟩) (hS) ?_
              try simp only [nrm]
              refine WpT.take (i := 7) rfl (by kernel_rfl) (fun _ _ _ h => h) (.inr ⟨by rfl, rfl⟩) (hS) ?_
              try simp only [nrm]
              refine WpT.take (i := 8) rfl (by kernel_rfl) (fun _ _ _ h => h) (.inr ⟨by rfl, rfl⟩) (hS) ?_
              try simp only [nrm]
              refine WpT.take (i := 9) rfl (by kernel_rfl) (fun _ _ _ h => h) (.inr ⟨by rfl, rfl⟩) (hS) ?_
              try simp only [nrm]
              refine WpT.take (i := 10) rfl (by kernel_rfl) (fun _ _ _ h => h) (.inr ⟨by rfl, rfl⟩) (hS) ?_
              try simp only [nrm]
              refine WpT.take (i := 11) rfl (by kernel_rfl) (fun _ _ _ h => h) (.inr ⟨by rfl, rfl⟩) (hS) ?_
              try simp only [nrm]
              refine WpT.take (i := 12) rfl (by kernel_rfl) (fun _ _ _ h => h) (.inr ⟨by rfl, rfl⟩) (hS) ?_
              try simp only [nrm]
              refine WpT.take (i := 13) rfl (by kernel_rfl) (fun _ _ _ h => h) (.inr ⟨by rfl, rfl⟩) (hS) ?_
              try simp only [nrm]
              refine WpT.take (i := 14) rfl (by kernel_rfl) (fun _ _ _ h => h) (.inr ⟨by rfl, rfl⟩) (hS) ?_
              try simp only [nrm]
              refine WpT.take (i := 15) rfl (by kernel_rfl) (fun _ _ _ h => h) (.inr ⟨by rfl, rfl⟩) (hS) ?_
              try simp only [nrm]
              refine WpT.take (i := 16) rfl (by kernel_rfl) (fun _ _ _ h => h) (.inl ⟨by rfl, fun w hSw => by clear hSw; go_simp; (try go_bits); (try rw [if_pos (by omega)]); (try with_reducible rfl)⟩) (hS) ?_
              try simp only [nrm]
              refine WpT.take (i := 17) rfl (by kernel_rfl) (fun _ _ _ h => h) (.inl ⟨by rfl, fun w hSw => by clear hSw; go_simp; (try go_bits); (try rw [if_pos (by omega)]); (try with_reducible rfl)⟩) (hS) ?_
              try simp only [nrm]
              refine WpT.take (i := 18) rfl (by kernel_rfl) (fun _ _ _ h => h) (.inl ⟨by rfl, fun w hSw => by clear hSw; go_simp; (try go_bits); (try rw [if_pos (by omega)]); (try with_reducible rfl)⟩) (hS) ?_
              try simp only [nrm]
              refine WpT.take (i := 19) rfl (by kernel_rfl) (fun _ _ _ h => h) (yields_loadW (by rfl) rfl rfl (by kernel_rfl) c0) (hS) ?_
              try simp only [nrm]
              refine WpT.take (i := 20) rfl (by kernel_rfl) (fun _ _ _ h => h) (.inl ⟨by rfl, fun w hSw => by clear hSw; go_simp; (try go_bits); (try rw [if_pos (by omega)]); (try with_reducible rfl)⟩) (hS) ?_
              try simp only [nrm]
              refine WpT.take (i := 21) rfl (by kernel_rfl) (fun _ _ _ h => h) (.inl ⟨by rfl, fun w hSw => by clear hSw; go_simp; (try go_bits); (try rw [if_pos (by omega)]); (try with_reducible rfl)⟩) (hS) ?_
              try simp only [nrm]
              refine WpT.take (i := 22) rfl (by kernel_rfl) (fun _ _ _ h => h) (.inl ⟨by rfl, fun w hSw => by clear hSw; go_simp; (try go_bits); (try rw [if_pos (by omega)]); (try with_reducible rfl)⟩) (hS) ?_
              try simp only [nrm]
              refine WpT.take (i := 23) rfl (by kernel_rfl) (fun _ _ _ h => h) (yields_loadKW (us := pxL v len) (by rfl) rfl rfl aggPx (by rw [sizePx, pxL_len]) cP) (hS) ?_
              try simp only [nrm]
              refine WpT.take (i := 24) rfl (by kernel_rfl) (fun _ _ _ h => h) (.inl ⟨by rfl, fun w hSw => by clear hSw; go_simp; (try go_bits); (try rw [if_pos (by omega)]); (try with_reducible rfl)⟩) (hS) ?_
              try simp only [nrm]
              refine WpT.take (i := 25) rfl (by kernel_rfl) (fun _ _ _ h => h) (yields_loadW (by rfl) rfl rfl (by kernel_rfl) cS) (hS) ?_
              try simp only [nrm]
              refine WpT.take (i := 26) rfl (by kernel_rfl) (fun _ _ _ h => h) (.inl ⟨by rfl, fun w hSw => by clear hSw; go_simp; (try go_bits); (try rw [if_pos (by omega)]); (try with_reducible rfl)⟩) (hS) ?_
              try simp only [nrm]
              refine WpT.take (i := 27) rfl (by kernel_rfl) (fun _ _ _ h => h) (.inl ⟨by rfl, fun w hSw => by clear hSw; go_simp; (try go_bits); (try rw [if_pos (by omega)]); (try with_reducible rfl)⟩) (hS) ?_
              try simp only [nrm]
              refine WpT.take (i := 28) rfl (by kernel_rfl) (fun _ _ _ h => h) (yields_loadKW (us := bv (dg x)) (by rfl) rfl rfl aggDg (by rw [sizeDg, bv_dg_len]) hc) (hS) ?_
              try simp only [nrm]
              refine WpT.one (i := 29) rfl (by kernel_rfl) (fun K hK => ?_)
              go_simp; refine (HUX.out _).mono ?_; rintro e w9 ⟨rfl, hb9⟩; replace hS := bstep hS hb9
              refine hK _ _ (hS) ?_; clear hK K; try simp only [nrm]
              refine WpT.take (i := 30) rfl (by kernel_rfl) (fun _ _ _ h => h) (.inl ⟨by rfl, fun w hSw => by clear hSw; go_simp; (try go_bits); (try rw [if_pos (by omega)]); (try with_reducible rfl)⟩) (hS) ?_
              try simp only [nrm]
              refine WpT.take (i := 31) rfl (by kernel_rfl) (fun _ _ _ h => h) (.inl ⟨by rfl, fun w hSw => by clear hSw; go_simp; (try go_bits); (try rw [if_pos (by omega)]); (try with_reducible rfl)⟩) (hS) ?_
              try simp only [nrm]
              refine WpT.take (i := 32) rfl (by kernel_rfl) (fun _ _ _ h => h) (.inl ⟨by rfl, fun w hSw => by clear hSw; go_simp; (try go_bits); (try rw [if_pos (by omega)]); (try with_reducible rfl)⟩) (hS) ?_
              try simp only [nrm]
              refine WpT.done (by kernel_rfl) ?_ _
              go_wp2_with fail
              go_ret
              exact ⟨by rw [HX3.out]; rfl, bstep hb0 hS⟩
            · have HNX : Hid (C = if chk (undK K v len) (prevD ns (k + 1)) (ns.drop (k + 1)) = true then 0 else 3) := Lib.hid (by rw [hv]; simp)
              clear hv HV hpv hp0
              refine wp_region_TB (S := Below (wr).heap.size (wr)) 33 (by kernel_rfl) ?_
              refine WpT.take (i := 0) rfl (by kernel_rfl) (fun _ _ _ h => h) (.inl ⟨by rfl, fun w hSw => by clear hSw; go_simp; (try go_bits); (try rw [if_pos (by omega)]); (try with_reducible rfl)⟩) (hS) ?_
              try simp only [nrm]
              refine WpT.take (i := 1) rfl (by kernel_rfl) (fun _ _ _ h => h) (.inl ⟨by rfl, fun w hSw => by clear hSw; go_simp; (try go_bits); (try rw [if_pos (by omega)]); (try with_reducible rfl)⟩) (hS) ?_
              try simp only [nrm]
              refine WpT.take (i := 2) rfl (by kernel_rfl) (fun _ _ _ h => h) (.inl ⟨by rfl, fun w hSw => by clear hSw; go_simp; (try go_bits); (try rw [if_pos (by omega)]); (try with_reducible rfl)⟩) (hS) ?_
              try simp only [nrm]
              refine WpT.take (i := 3) rfl (by kernel_rfl) (fun _ _ _ h => h) (.inr ⟨by rfl, rfl⟩) (hS) ?_
              try simp only [nrm]
              refine WpT.take (i := 4) rfl (by kernel_rfl) (fun _ _ _ h => h) (.inr ⟨by rfl, rfl⟩) (hS) ?_
              try simp only [nrm]
              refine WpT.take (i := 5) rfl (by kernel_rfl) (fun _ _ _ h => h) (.inr ⟨by rfl, rfl⟩) (hS) ?_
              try simp only [nrm]
              refine WpT.take (i := 6) rfl (by kernel_rfl) (fun _ _ _ h => h) (.inr ⟨by rfl, rfl⟩) (hS) ?_
              try simp only [nrm]
              refine WpT.take (i := 7) rfl (by kernel_rfl) (fun _ _ _ h => h) (.inr ⟨by rfl, rfl⟩) (hS) ?_
              try simp only [nrm]
              refine WpT.take (i := 8) rfl (by kernel_rfl) (fun _ _ _ h => h) (.inr ⟨by rfl, rfl⟩) (hS) ?_
              try simp only [nrm]
              refine WpT.take (i := 9) rfl (by kernel_rfl) (fun _ _ _ h => h) (.inr ⟨by rfl, rfl⟩) (hS) ?_
              try simp only [nrm]
              refine WpT.take (i := 10) rfl (by kernel_rfl) (fun _ _ _ h => h) (.inr ⟨by rfl, rfl⟩) (hS) ?_
              try simp only [nrm]
              refine WpT.take (i := 11) rfl (by kernel_rfl) (fun _ _ _ h => h) (.inr ⟨by rfl, rfl⟩) (hS) ?_
              try simp only [nrm]
              refine WpT.take (i := 12) rfl (by kernel_rfl) (fun _ _ _ h => h) (.inr ⟨by rfl, rfl⟩) (hS) ?_
              try simp only [nrm]
              refine WpT.take (i := 13) rfl (by kernel_rfl) (fun _ _ _ h => h) (.inr ⟨by rfl, rfl⟩) (hS) ?_
              try simp only [nrm]
              refine WpT.take (i := 14) rfl (by kernel_rfl) (fun _ _ _ h => h) (.inr ⟨by rfl, rfl⟩) (hS) ?_
              try simp only [nrm]
              refine WpT.take (i := 15) rfl (by kernel_rfl) (fun _ _ _ h => h) (.inr ⟨by rfl, rfl⟩) (hS) ?_
              try simp only [nrm]
              refine WpT.take (i := 16) rfl (by kernel_rfl) (fun _ _ _ h => h) (.inl ⟨by rfl, fun w hSw => by clear hSw; go_simp; (try go_bits); (try rw [if_pos (by omega)]); (try with_reducible rfl)⟩) (hS) ?_
              try simp only [nrm]
              refine WpT.take (i := 17) rfl (by kernel_rfl) (fun _ _ _ h => h) (.inl ⟨by rfl, fun w hSw => by clear hSw; go_simp; (try go_bits); (try rw [if_pos (by omega)]); (try with_reducible rfl)⟩) (hS) ?_
              try simp only [nrm]
              refine WpT.take (i := 18) rfl (by kernel_rfl) (fun _ _ _ h => h) (.inl ⟨by rfl, fun w hSw => by clear hSw; go_simp; (try go_bits); (try rw [if_pos (by omega)]); (try with_reducible rfl)⟩) (hS) ?_
              try simp only [nrm]
              refine WpT.take (i := 19) rfl (by kernel_rfl) (fun _ _ _ h => h) (yields_loadW (by rfl) rfl rfl (by kernel_rfl) c0) (hS) ?_
              try simp only [nrm]
              refine WpT.take (i := 20) rfl (by kernel_rfl) (fun _ _ _ h => h) (.inl ⟨by rfl, fun w hSw => by clear hSw; go_simp; (try go_bits); (try rw [if_pos (by omega)]); (try with_reducible rfl)⟩) (hS) ?_
              try simp only [nrm]
              refine WpT.take (i := 21) rfl (by kernel_rfl) (fun _ _ _ h => h) (.inl ⟨by rfl, fun w hSw => by clear hSw; go_simp; (try go_bits); (try rw [if_pos (by omega)]); (try with_reducible rfl)⟩) (hS) ?_
              try simp only [nrm]
              refine WpT.take (i := 22) rfl (by kernel_rfl) (fun _ _ _ h => h) (.inl ⟨by rfl, fun w hSw => by clear hSw; go_simp; (try go_bits); (try rw [if_pos (by omega)]); (try with_reducible rfl)⟩) (hS) ?_
              try simp only [nrm]
              refine WpT.take (i := 23) rfl (by kernel_rfl) (fun _ _ _ h => h) (yields_loadKW (us := pxL v len) (by rfl) rfl rfl aggPx (by rw [sizePx, pxL_len]) cP) (hS) ?_
              try simp only [nrm]
              refine WpT.take (i := 24) rfl (by kernel_rfl) (fun _ _ _ h => h) (.inl ⟨by rfl, fun w hSw => by clear hSw; go_simp; (try go_bits); (try rw [if_pos (by omega)]); (try with_reducible rfl)⟩) (hS) ?_
              try simp only [nrm]
              refine WpT.take (i := 25) rfl (by kernel_rfl) (fun _ _ _ h => h) (yields_loadW (by rfl) rfl rfl (by kernel_rfl) cS) (hS) ?_
              try simp only [nrm]
              refine WpT.take (i := 26) rfl (by kernel_rfl) (fun _ _ _ h => h) (.inl ⟨by rfl, fun w hSw => by clear hSw; go_simp; (try go_bits); (try rw [if_pos (by omega)]); (try with_reducible rfl)⟩) (hS) ?_
              try simp only [nrm]
              refine WpT.take (i := 27) rfl (by kernel_rfl) (fun _ _ _ h => h) (.inl ⟨by rfl, fun w hSw => by clear hSw; go_simp; (try go_bits); (try rw [if_pos (by omega)]); (try with_reducible rfl)⟩) (hS) ?_
              try simp only [nrm]
              refine WpT.take (i := 28) rfl (by kernel_rfl) (fun _ _ _ h => h) (yields_loadKW (us := bv (dg x)) (by rfl) rfl rfl aggDg (by rw [sizeDg, bv_dg_len]) hc) (hS) ?_
              try simp only [nrm]
              refine WpT.one (i := 29) rfl (by kernel_rfl) (fun K hK => ?_)
              go_simp; refine (HUX.out _).mono ?_; rintro e w9 ⟨rfl, hb9⟩; replace hS := bstep hS hb9
              refine hK _ _ (hS) ?_; clear hK K; try simp only [nrm]
              refine WpT.take (i := 30) rfl (by kernel_rfl) (fun _ _ _ h => h) (.inl ⟨by rfl, fun w hSw => by clear hSw; go_simp; (try go_bits); (try rw [if_pos (by omega)]); (try with_reducible rfl)⟩) (hS) ?_
              try simp only [nrm]
              refine WpT.take (i := 31) rfl (by kernel_rfl) (fun _ _ _ h => h) (.inl ⟨by rfl, fun w hSw => by clear hSw; go_simp; (try go_bits); (try rw [if_pos (by omega)]); (try with_reducible rfl)⟩) (hS) ?_
              try simp only [nrm]
              refine WpT.take (i := 32) rfl (by kernel_rfl) (fun _ _ _ h => h) (.inl ⟨by rfl, fun w hSw => by clear hSw; go_simp; (try go_bits); (try rw [if_pos (by omega)]); (try with_reducible rfl)⟩) (hS) ?_
              try simp only [nrm]
              refine WpT.done (by kernel_rfl) ?_ _
              go_wp2_with fail
              exact ⟨⟨k + 1, by omega, by go_num, bstep hbw hS, HNX⟩, by simp [intOf]; omega⟩
          · have d2 : decide (K = 2) = false := by simpa using hK2
            have d2b : (K == 2) = false := by simpa using hK2
            have hun : undK K v len x = true := by unfold undK; rw [d2]; rfl
            rw [hun] at hv
            have HNX : Hid (C = if chk (undK K v len) (prevD ns (k + 1)) (ns.drop (k + 1)) = true then 0 else 3) := Lib.hid (by rw [hv]; simp)
            clear hun hv HV hpv hp0 cP d2 hK2
            refine wp_region_TB (S := Below (wr).heap.size (wr)) 33 (by kernel_rfl) ?_
            refine WpT.take (i := 0) rfl (by kernel_rfl) (fun _ _ _ h => h) (.inl ⟨by rfl, fun w hSw => by clear hSw; go_simp; (try go_bits); (try rw [if_pos (by omega)]); (try with_reducible rfl)⟩) (hS) ?_
            try simp only [nrm]
            refine WpT.take (i := 1) rfl (by kernel_rfl) (fun _ _ _ h => h) (.inl ⟨by rfl, fun w hSw => by clear hSw; go_simp; (try go_bits); (try rw [if_pos (by omega)]); (try with_reducible rfl)⟩) (hS) ?_
            try simp only [nrm]
            refine WpT.take (i := 2) rfl (by kernel_rfl) (fun _ _ _ h => h) (.inl ⟨by rfl, fun w hSw => by clear hSw; go_simp; (try go_bits); (try rw [if_pos (by omega)]); (try with_reducible rfl)⟩) (hS) ?_
            try simp only [nrm]
            refine WpT.take (i := 3) rfl (by kernel_rfl) (fun _ _ _ h => h) (.inr ⟨by rfl, rfl⟩) (hS) ?_
            try simp only [nrm]
            refine WpT.take (i := 4) rfl (by kernel_rfl) (fun _ _ _ h => h) (.inr ⟨by rfl, rfl⟩) (hS) ?_
            try simp only [nrm]
            refine WpT.take (i := 5) rfl (by kernel_rfl) (fun _ _ _ h => h) (.inr ⟨by rfl, rfl⟩) (hS) ?_
            try simp only [nrm]
            refine WpT.take (i := 6) rfl (by kernel_rfl) (fun _ _ _ h => h) (.inr ⟨by rfl, rfl⟩) (hS) ?_
            try simp only [nrm]
            refine WpT.take (i := 7) rfl (by kernel_rfl) (fun _ _ _ h => h) (.inr ⟨by rfl, rfl⟩) (hS) ?_
            try simp only [nrm]
            refine WpT.take (i := 8) rfl (by kernel_rfl) (fun _ _ _ h => h) (.inr ⟨by rfl, rfl⟩) (hS) ?_
            try simp only [nrm]
            refine WpT.take (i := 9) rfl (by kernel_rfl) (fun _ _ _ h => h) (.inr ⟨by rfl, rfl⟩) (hS) ?_
            try simp only [nrm]
            refine WpT.take (i := 10) rfl (by kernel_rfl) (fun _ _ _ h => h) (.inr ⟨by rfl, rfl⟩) (hS) ?_
            try simp only [nrm]
            refine WpT.take (i := 11) rfl (by kernel_rfl) (fun _ _ _ h => h) (.inr ⟨by rfl, rfl⟩) (hS) ?_
            try simp only [nrm]
            refine WpT.take (i := 12) rfl (by kernel_rfl) (fun _ _ _ h => h) (.inr ⟨by rfl, rfl⟩) (hS) ?_
            try simp only [nrm]
            refine WpT.take (i := 13) rfl (by kernel_rfl) (fun _ _ _ h => h) (.inr ⟨by rfl, rfl⟩) (hS) ?_
            try simp only [nrm]
            refine WpT.take (i := 14) rfl (by kernel_rfl) (fun _ _ _ h => h) (.inr ⟨by rfl, rfl⟩) (hS) ?_
            try simp only [nrm]
            refine WpT.take (i := 15) rfl (by kernel_rfl) (fun _ _ _ h => h) (.inr ⟨by rfl, rfl⟩) (hS) ?_
            try simp only [nrm]
            refine WpT.take (i := 16) rfl (by kernel_rfl) (fun _ _ _ h => h) (.inl ⟨by rfl, fun w hSw => by clear hSw; go_simp; (try go_bits); (try rw [if_pos (by omega)]); (try with_reducible rfl)⟩) (hS) ?_
            try simp only [nrm]
            refine WpT.take (i := 17) rfl (by kernel_rfl) (fun _ _ _ h => h) (.inl ⟨by rfl, fun w hSw => by clear hSw; go_simp; (try go_bits); (try rw [if_pos (by omega)]); (try with_reducible rfl)⟩) (hS) ?_
            try simp only [nrm]
            refine WpT.take (i := 18) rfl (by kernel_rfl) (fun _ _ _ h => h) (.inl ⟨by rfl, fun w hSw => by clear hSw; go_simp; (try go_bits); (try rw [if_pos (by omega)]); (try with_reducible rfl)⟩) (hS) ?_
            try simp only [nrm]
            refine WpT.take (i := 19) rfl (by kernel_rfl) (fun _ _ _ h => h) (yields_loadW (by rfl) rfl rfl (by kernel_rfl) c0) (hS) ?_
            try simp only [nrm]
            refine WpT.take (i := 20) rfl (by kernel_rfl) (fun _ _ _ h => h) (.inl ⟨by rfl, fun w hSw => by clear hSw; go_simp; (try go_bits); (try rw [if_pos (by omega)]); (try with_reducible rfl)⟩) (hS) ?_
            try simp only [nrm]
            refine WpT.take (i := 21) rfl (by kernel_rfl) (fun _ _ _ h => h) (.inl ⟨by rfl, fun w hSw => by clear hSw; go_simp; (try go_bits); (try rw [if_pos (by omega)]); (try with_reducible rfl)⟩) (hS) ?_
            try simp only [nrm]
            refine WpT.take (i := 22) rfl (by kernel_rfl) (fun _ _ _ h => h) (.inr ⟨by rfl, rfl⟩) (hS) ?_
            try simp only [nrm]
            refine WpT.take (i := 23) rfl (by kernel_rfl) (fun _ _ _ h => h) (.inr ⟨by rfl, rfl⟩) (hS) ?_
            try simp only [nrm]
            refine WpT.take (i := 24) rfl (by kernel_rfl) (fun _ _ _ h => h) (.inr ⟨by rfl, rfl⟩) (hS) ?_
            try simp only [nrm]
            refine WpT.take (i := 25) rfl (by kernel_rfl) (fun _ _ _ h => h) (.inr ⟨by rfl, rfl⟩) (hS) ?_
            try simp only [nrm]
            refine WpT.take (i := 26) rfl (by kernel_rfl) (fun _ _ _ h => h) (.inr ⟨by rfl, rfl⟩) (hS) ?_
            try simp only [nrm]
            refine WpT.take (i := 27) rfl (by kernel_rfl) (fun _ _ _ h => h) (.inr ⟨by rfl, rfl⟩) (hS) ?_
            try simp only [nrm]
            refine WpT.take (i := 28) rfl (by kernel_rfl) (fun _ _ _ h => h) (.inr ⟨by rfl, rfl⟩) (hS) ?_
            try simp only [nrm]
            refine WpT.take (i := 29) rfl (by kernel_rfl) (fun _ _ _ h => h) (.inr ⟨by rfl, rfl⟩) (hS) ?_
            try simp only [nrm]
            refine WpT.take (i := 30) rfl (by kernel_rfl) (fun _ _ _ h => h) (.inr ⟨by rfl, rfl⟩) (hS) ?_
            try simp only [nrm]
            refine WpT.take (i := 31) rfl (by kernel_rfl) (fun _ _ _ h => h) (.inl ⟨by rfl, fun w hSw => by clear hSw; go_simp; (try go_bits); (try rw [if_pos (by omega)]); (try with_reducible rfl)⟩) (hS) ?_
            try simp only [nrm]
            refine WpT.take (i := 32) rfl (by kernel_rfl) (fun _ _ _ h => h) (.inl ⟨by rfl, fun w hSw => by clear hSw; go_simp; (try go_bits); (try rw [if_pos (by omega)]); (try with_reducible rfl)⟩) (hS) ?_
            try simp only [nrm]
            refine WpT.done (by kernel_rfl) ?_ _
            go_wp2_with fail
            exact ⟨⟨k + 1, by omega, by go_num, bstep hbw hS, HNX⟩, by simp [intOf]; omega⟩
        · obtain ⟨j, hj⟩ : ∃ j, k = j + 1 := ⟨k - 1, by omega⟩
          obtain ⟨hjl, hpe, hpw, hpc⟩ := hpv.out j hj
          subst hpe
          have hzn := hpc _ hbw
          clear hpc hpv
          generalize ns[j] = z at *
          have dk : decide ((0 : Int) < (k : Int)) = true := by rw [decide_eq_true_eq]; omega
          have dkn : decide (0 < k) = true := by rw [decide_eq_true_eq]; omega
          have hje : (k : Int) - 1 = (j : Int) := by omega
          have hjm : j < nn := by omega
          have hpv : Hid True := Lib.hid trivial
          have HJ := Lib.hid hj
          clear hj
          have HO := Lib.hid (fun W => HOR.out z x W hpw hxw)
          simp only at hv
          by_cases h3 : z < x
          · have d3 : decide (z < x) = true := by simpa using h3
            simp only [d3, Bool.true_and] at hv
            rw [d3] at HO
            clear h3 d3
            by_cases hK2 : K = 2
            · have d2 : decide (K = 2) = true := by simpa using hK2
              have d2b : (K == 2) = true := by simpa using hK2
              have hun : undK K v len x = under ⟨v, len.toNat⟩ x := by unfold undK; rw [d2]; rfl
              rw [hun] at hv
              have HK2 := Lib.hid hK2
              clear hun d2 hK2
              generalize under ⟨v, len.toNat⟩ x = U at *
              cases U
              · have HX3 : Hid (C = 3) := Lib.hid (by rw [hv]; simp)
                clear hv HV hpv hp0
                refine wp_region_TB (S := Below (wr).heap.size (wr)) 33 (by kernel_rfl) ?_
                refine WpT.take (i := 0) rfl (by kernel_rfl) (fun _ _ _ h => h) (.inl ⟨by rfl, fun w hSw => by clear hSw; go_simp; (try go_bits); (try rw [if_pos (by omega)]); (try with_reducible rfl)⟩) (hS) ?_
                try simp only [nrm]
                refine WpT.take (i := 1) rfl (by kernel_rfl) (fun _ _ _ h => h) (.inl ⟨by rfl, fun w hSw => by clear hSw; go_simp; (try go_bits); (try rw [if_pos (by omega)]); (try with_reducible rfl)⟩) (hS) ?_
                try simp only [nrm]
                refine WpT.take (i := 2) rfl (by kernel_rfl) (fun _ _ _ h => h) (.inl ⟨by rfl, fun w hSw => by clear hSw; go_simp; (try go_bits); (try rw [if_pos (by omega)]); (try with_reducible rfl)⟩) (hS) ?_
                try simp only [nrm]
                refine WpT.take (i := 3) rfl (by kernel_rfl) (fun _ _ _ h => h) (.inl ⟨by rfl, fun w hSw => by clear hSw; go_simp; (try go_bits); (try rw [if_pos (by omega)]); (try with_reducible rfl)⟩) (hS) ?_
                try simp only [nrm]
                refine WpT.take (i := 4) rfl (by kernel_rfl) (fun _ _ _ h => h) (yields_loadW (by rfl) rfl rfl (by kernel_rfl) cS) (hS) ?_
                try simp only [nrm]
                refine WpT.take (i := 5) rfl (by kernel_rfl) (fun _ _ _ h => h) (.inl ⟨by rfl, fun w hSw => by clear hSw; go_simp; (try go_bits); (try rw [if_pos (by omega)]); (try with_reducible rfl)⟩) (hS) ?_
                try simp only [nrm]
                refine WpT.take (i := 6) rfl (by kernel_rfl) (fun _ _ _ h => h) (.inl ⟨by rfl, fun w hSw => by clear hSw; go_simp; (try go_bits); (try rw [if_pos (by omega)]); (try with_reducible rfl)⟩) (hS) ?_
                try simp only [nrm]
                refine WpT.take (i := 7) rfl (by kernel_rfl) (fun _ _ _ h => h) (.inl ⟨by rfl, fun w hSw => by clear hSw; go_simp; (try go_bits); (try rw [if_pos (by omega)]); (try with_reducible rfl)⟩) (hS) ?_
                try simp only [nrm]
                refine WpT.take (i := 8) rfl (by kernel_rfl) (fun _ _ _ h => h) (yields_loadKW (us := bv (dg z)) (by rfl) rfl rfl aggDg (by rw [sizeDg, bv_dg_len]) hzn) (hS) ?_
                try simp only [nrm]
                refine WpT.take (i := 9) rfl (by kernel_rfl) (fun _ _ _ h => h) (.inl ⟨by rfl, fun w hSw => by clear hSw; go_simp; (try go_bits); (try rw [if_pos (by omega)]); (try with_reducible rfl)⟩) (hS) ?_
                try simp only [nrm]
                refine WpT.take (i := 10) rfl (by kernel_rfl) (fun _ _ _ h => h) (yields_loadW (by rfl) rfl rfl (by kernel_rfl) cS) (hS) ?_
                try simp only [nrm]
                refine WpT.take (i := 11) rfl (by kernel_rfl) (fun _ _ _ h => h) (.inl ⟨by rfl, fun w hSw => by clear hSw; go_simp; (try go_bits); (try rw [if_pos (by omega)]); (try with_reducible rfl)⟩) (hS) ?_
                try simp only [nrm]
                refine WpT.take (i := 12) rfl (by kernel_rfl) (fun _ _ _ h => h) (.inl ⟨by rfl, fun w hSw => by clear hSw; go_simp; (try go_bits); (try rw [if_pos (by omega)]); (try with_reducible rfl)⟩) (hS) ?_
                try simp only [nrm]
                refine WpT.take (i := 13) rfl (by kernel_rfl) (fun _ _ _ h => h) (yields_loadKW (us := bv (dg x)) (by rfl) rfl rfl aggDg (by rw [sizeDg, bv_dg_len]) hc) (hS) ?_
                try simp only [nrm]
                refine WpT.one (i := 14) rfl (by kernel_rfl) (fun K hK => ?_)
                go_simp; refine (HO.out _).mono ?_; rintro e w8 ⟨rfl, hb8⟩; replace hS := bstep hS hb8
                refine hK _ _ (hS) ?_; clear hK K; try simp only [nrm]
                refine WpT.take (i := 15) rfl (by kernel_rfl) (fun _ _ _ h => h) (.inl ⟨by rfl, fun w hSw => by clear hSw; go_simp; (try go_bits); (try rw [if_pos (by omega)]); (try with_reducible rfl)⟩) (hS) ?_
                try simp only [nrm]
                refine WpT.take (i := 16) rfl (by kernel_rfl) (fun _ _ _ h => h) (.inl ⟨by rfl, fun w hSw => by clear hSw; go_simp; (try go_bits); (try rw [if_pos (by omega)]); (try with_reducible rfl)⟩) (hS) ?_
                try simp only [nrm]
                refine WpT.take (i := 17) rfl (by kernel_rfl) (fun _ _ _ h => h) (.inl ⟨by rfl, fun w hSw => by clear hSw; go_simp; (try go_bits); (try rw [if_pos (by omega)]); (try with_reducible rfl)⟩) (hS) ?_
                try simp only [nrm]
                refine WpT.take (i := 18) rfl (by kernel_rfl) (fun _ _ _ h => h) (.inl ⟨by rfl, fun w hSw => by clear hSw; go_simp; (try go_bits); (try rw [if_pos (by omega)]); (try with_reducible rfl)⟩) (hS) ?_
                try simp only [nrm]
                refine WpT.take (i := 19) rfl (by kernel_rfl) (fun _ _ _ h => h) (yields_loadW (by rfl) rfl rfl (by kernel_rfl) c0) (hS) ?_
                try simp only [nrm]
                refine WpT.take (i := 20) rfl (by kernel_rfl) (fun _ _ _ h => h) (.inl ⟨by rfl, fun w hSw => by clear hSw; go_simp; (try go_bits); (try rw [if_pos (by omega)]); (try with_reducible rfl)⟩) (hS) ?_
                try simp only [nrm]
                refine WpT.take (i := 21) rfl (by kernel_rfl) (fun _ _ _ h => h) (.inl ⟨by rfl, fun w hSw => by clear hSw; go_simp; (try go_bits); (try rw [if_pos (by omega)]); (try with_reducible rfl)⟩) (hS) ?_
                try simp only [nrm]
                refine WpT.take (i := 22) rfl (by kernel_rfl) (fun _ _ _ h => h) (.inl ⟨by rfl, fun w hSw => by clear hSw; go_simp; (try go_bits); (try rw [if_pos (by omega)]); (try with_reducible rfl)⟩) (hS) ?_
                try simp only [nrm]
                refine WpT.take (i := 23) rfl (by kernel_rfl) (fun _ _ _ h => h) (yields_loadKW (us := pxL v len) (by rfl) rfl rfl aggPx (by rw [sizePx, pxL_len]) cP) (hS) ?_
                try simp only [nrm]
                refine WpT.take (i := 24) rfl (by kernel_rfl) (fun _ _ _ h => h) (.inl ⟨by rfl, fun w hSw => by clear hSw; go_simp; (try go_bits); (try rw [if_pos (by omega)]); (try with_reducible rfl)⟩) (hS) ?_
                try simp only [nrm]
                refine WpT.take (i := 25) rfl (by kernel_rfl) (fun _ _ _ h => h) (yields_loadW (by rfl) rfl rfl (by kernel_rfl) cS) (hS) ?_
                try simp only [nrm]
                refine WpT.take (i := 26) rfl (by kernel_rfl) (fun _ _ _ h => h) (.inl ⟨by rfl, fun w hSw => by clear hSw; go_simp; (try go_bits); (try rw [if_pos (by omega)]); (try with_reducible rfl)⟩) (hS) ?_
                try simp only [nrm]
                refine WpT.take (i := 27) rfl (by kernel_rfl) (fun _ _ _ h => h) (.inl ⟨by rfl, fun w hSw => by clear hSw; go_simp; (try go_bits); (try rw [if_pos (by omega)]); (try with_reducible rfl)⟩) (hS) ?_
                try simp only [nrm]
                refine WpT.take (i := 28) rfl (by kernel_rfl) (fun _ _ _ h => h) (yields_loadKW (us := bv (dg x)) (by rfl) rfl rfl aggDg (by rw [sizeDg, bv_dg_len]) hc) (hS) ?_
                try simp only [nrm]
                refine WpT.one (i := 29) rfl (by kernel_rfl) (fun K hK => ?_)
                go_simp; refine (HUX.out _).mono ?_; rintro e w9 ⟨rfl, hb9⟩; replace hS := bstep hS hb9
                refine hK _ _ (hS) ?_; clear hK K; try simp only [nrm]
                refine WpT.take (i := 30) rfl (by kernel_rfl) (fun _ _ _ h => h) (.inl ⟨by rfl, fun w hSw => by clear hSw; go_simp; (try go_bits); (try rw [if_pos (by omega)]); (try with_reducible rfl)⟩) (hS) ?_
                try simp only [nrm]
                refine WpT.take (i := 31) rfl (by kernel_rfl) (fun _ _ _ h => h) (.inl ⟨by rfl, fun w hSw => by clear hSw; go_simp; (try go_bits); (try rw [if_pos (by omega)]); (try with_reducible rfl)⟩) (hS) ?_
                try simp only [nrm]
                refine WpT.take (i := 32) rfl (by kernel_rfl) (fun _ _ _ h => h) (.inl ⟨by rfl, fun w hSw => by clear hSw; go_simp; (try go_bits); (try rw [if_pos (by omega)]); (try with_reducible rfl)⟩) (hS) ?_
                try simp only [nrm]
                refine WpT.done (by kernel_rfl) ?_ _
                go_wp2_with fail
                go_ret
                exact ⟨by rw [HX3.out]; rfl, bstep hb0 hS⟩
              · have HNX : Hid (C = if chk (undK K v len) (prevD ns (k + 1)) (ns.drop (k + 1)) = true then 0 else 3) := Lib.hid (by rw [hv]; simp)
                clear hv HV hpv hp0
                refine wp_region_TB (S := Below (wr).heap.size (wr)) 33 (by kernel_rfl) ?_
                refine WpT.take (i := 0) rfl (by kernel_rfl) (fun _ _ _ h => h) (.inl ⟨by rfl, fun w hSw => by clear hSw; go_simp; (try go_bits); (try rw [if_pos (by omega)]); (try with_reducible rfl)⟩) (hS) ?_
                try simp only [nrm]
                refine WpT.take (i := 1) rfl (by kernel_rfl) (fun _ _ _ h => h) (.inl ⟨by rfl, fun w hSw => by clear hSw; go_simp; (try go_bits); (try rw [if_pos (by omega)]); (try with_reducible rfl)⟩) (hS) ?_
                try simp only [nrm]
                refine WpT.take (i := 2) rfl (by kernel_rfl) (fun _ _ _ h => h) (.inl ⟨by rfl, fun w hSw => by clear hSw; go_simp; (try go_bits); (try rw [if_pos (by omega)]); (try with_reducible rfl)⟩) (hS) ?_
                try simp only [nrm]
                refine WpT.take (i := 3) rfl (by kernel_rfl) (fun _ _ _ h => h) (.inl ⟨by rfl, fun w hSw => by clear hSw; go_simp; (try go_bits); (try rw [if_pos (by omega)]); (try with_reducible rfl)⟩) (hS) ?_
                try simp only [nrm]
                refine WpT.take (i := 4) rfl (by kernel_rfl) (fun _ _ _ h => h) (yields_loadW (by rfl) rfl rfl (by kernel_rfl) cS) (hS) ?_
                try simp only [nrm]
                refine WpT.take (i := 5) rfl (by kernel_rfl) (fun _ _ _ h => h) (.inl ⟨by rfl, fun w hSw => by clear hSw; go_simp; (try go_bits); (try rw [if_pos (by omega)]); (try with_reducible rfl)⟩) (hS) ?_
                try simp only [nrm]
                refine WpT.take (i := 6) rfl (by kernel_rfl) (fun _ _ _ h => h) (.inl ⟨by rfl, fun w hSw => by clear hSw; go_simp; (try go_bits); (try rw [if_pos (by omega)]); (try with_reducible rfl)⟩) (hS) ?_
                try simp only [nrm]
                refine WpT.take (i := 7) rfl (by kernel_rfl) (fun _ _ _ h => h) (.inl ⟨by rfl, fun w hSw => by clear hSw; go_simp; (try go_bits); (try rw [if_pos (by omega)]); (try with_reducible rfl)⟩) (hS) ?_
                try simp only [nrm]
                refine WpT.take (i := 8) rfl (by kernel_rfl) (fun _ _ _ h => h) (yields_loadKW (us := bv (dg z)) (by rfl) rfl rfl aggDg (by rw [sizeDg, bv_dg_len]) hzn) (hS) ?_
                try simp only [nrm]
                refine WpT.take (i := 9) rfl (by kernel_rfl) (fun _ _ _ h => h) (.inl ⟨by rfl, fun w hSw => by clear hSw; go_simp; (try go_bits); (try rw [if_pos (by omega)]); (try with_reducible rfl)⟩) (hS) ?_
                try simp only [nrm]
                refine WpT.take (i := 10) rfl (by kernel_rfl) (fun _ _ _ h => h) (yields_loadW (by rfl) rfl rfl (by kernel_rfl) cS) (hS) ?_
                try simp only [nrm]
                refine WpT.take (i := 11) rfl (by kernel_rfl) (fun _ _ _ h => h) (.inl ⟨by rfl, fun w hSw => by clear hSw; go_simp; (try go_bits); (try rw [if_pos (by omega)]); (try with_reducible rfl)⟩) (hS) ?_
                try simp only [nrm]
                refine WpT.take (i := 12) rfl (by kernel_rfl) (fun _ _ _ h => h) (.inl ⟨by rfl, fun w hSw => by clear hSw; go_simp; (try go_bits); (try rw [if_pos (by omega)]); (try with_reducible rfl)⟩) (hS) ?_
                try simp only [nrm]
                refine WpT.take (i := 13) rfl (by kernel_rfl) (fun _ _ _ h => h) (yields_loadKW (us := bv (dg x)) (by rfl) rfl rfl aggDg (by rw [sizeDg, bv_dg_len]) hc) (hS) ?_
                try simp only [nrm]
                refine WpT.one (i := 14) rfl (by kernel_rfl) (fun K hK => ?_)
                go_simp; refine (HO.out _).mono ?_; rintro e w8 ⟨rfl, hb8⟩; replace hS := bstep hS hb8
                refine hK _ _ (hS) ?_; clear hK K; try simp only [nrm]
                refine WpT.take (i := 15) rfl (by kernel_rfl) (fun _ _ _ h => h) (.inl ⟨by rfl, fun w hSw => by clear hSw; go_simp; (try go_bits); (try rw [if_pos (by omega)]); (try with_reducible rfl)⟩) (hS) ?_
                try simp only [nrm]
                refine WpT.take (i := 16) rfl (by kernel_rfl) (fun _ _ _ h => h) (.inl ⟨by rfl, fun w hSw => by clear hSw; go_simp; (try go_bits); (try rw [if_pos (by omega)]); (try with_reducible rfl)⟩) (hS) ?_
                try simp only [nrm]
                refine WpT.take (i := 17) rfl (by kernel_rfl) (fun _ _ _ h => h) (.inl ⟨by rfl, fun w hSw => by clear hSw; go_simp; (try go_bits); (try rw [if_pos (by omega)]); (try with_reducible rfl)⟩) (hS) ?_
                try simp only [nrm]
                refine WpT.take (i := 18) rfl (by kernel_rfl) (fun _ _ _ h => h) (.inl ⟨by rfl, fun w hSw => by clear hSw; go_simp; (try go_bits); (try rw [if_pos (by omega)]); (try with_reducible rfl)⟩) (hS) ?_
                try simp only [nrm]
                refine WpT.take (i := 19) rfl (by kernel_rfl) (fun _ _ _ h => h) (yields_loadW (by rfl) rfl rfl (by kernel_rfl) c0) (hS) ?_
                try simp only [nrm]
                refine WpT.take (i := 20) rfl (by kernel_rfl) (fun _ _ _ h => h) (.inl ⟨by rfl, fun w hSw => by clear hSw; go_simp; (try go_bits); (try rw [if_pos (by omega)]); (try with_reducible rfl)⟩) (hS) ?_
                try simp only [nrm]
                refine WpT.take (i := 21) rfl (by kernel_rfl) (fun _ _ _ h => h) (.inl ⟨by rfl, fun w hSw => by clear hSw; go_simp; (try go_bits); (try rw [if_pos (by omega)]); (try with_reducible rfl)⟩) (hS) ?_
                try simp only [nrm]
                refine WpT.take (i := 22) rfl (by kernel_rfl) (fun _ _ _ h => h) (.inl ⟨by rfl, fun w hSw => by clear hSw; go_simp; (try go_bits); (try rw [if_pos (by omega)]); (try with_reducible rfl)⟩) (hS) ?_
                try simp only [nrm]
                refine WpT.take (i := 23) rfl (by kernel_rfl) (fun _ _ _ h => h) (yields_loadKW (us := pxL v len) (by rfl) rfl rfl aggPx (by rw [sizePx, pxL_len]) cP) (hS) ?_
                try simp only [nrm]
                refine WpT.take (i := 24) rfl (by kernel_rfl) (fun _ _ _ h => h) (.inl ⟨by rfl, fun w hSw => by clear hSw; go_simp; (try go_bits); (try rw [if_pos (by omega)]); (try with_reducible rfl)⟩) (hS) ?_
                try simp only [nrm]
                refine WpT.take (i := 25) rfl (by kernel_rfl) (fun _ _ _ h => h) (yields_loadW (by rfl) rfl rfl (by kernel_rfl) cS) (hS) ?_
                try simp only [nrm]
                refine WpT.take (i := 26) rfl (by kernel_rfl) (fun _ _ _ h => h) (.inl ⟨by rfl, fun w hSw => by clear hSw; go_simp; (try go_bits); (try rw [if_pos (by omega)]); (try with_reducible rfl)⟩) (hS) ?_
                try simp only [nrm]
                refine WpT.take (i := 27) rfl (by kernel_rfl) (fun _ _ _ h => h) (.inl ⟨by rfl, fun w hSw => by clear hSw; go_simp; (try go_bits); (try rw [if_pos (by omega)]); (try with_reducible rfl)⟩) (hS) ?_
                try simp only [nrm]
                refine WpT.take (i := 28) rfl (by kernel_rfl) (fun _ _ _ h => h) (yields_loadKW (us := bv (dg x)) (by rfl) rfl rfl aggDg (by rw [sizeDg, bv_dg_len]) hc) (hS) ?_
                try simp only [nrm]
                refine WpT.one (i := 29) rfl (by kernel_rfl) (fun K hK => ?_)
                go_simp; refine (HUX.out _).mono ?_; rintro e w9 ⟨rfl, hb9⟩; replace hS := bstep hS hb9
                refine hK _ _ (hS) ?_; clear hK K; try simp only [nrm]
                refine WpT.take (i := 30) rfl (by kernel_rfl) (fun _ _ _ h => h) (.inl ⟨by rfl, fun w hSw => by clear hSw; go_simp; (try go_bits); (try rw [if_pos (by omega)]); (try with_reducible rfl)⟩) (hS) ?_
                try simp only [nrm]
                refine WpT.take (i := 31) rfl (by kernel_rfl) (fun _ _ _ h => h) (.inl ⟨by rfl, fun w hSw => by clear hSw; go_simp; (try go_bits); (try rw [if_pos (by omega)]); (try with_reducible rfl)⟩) (hS) ?_
                try simp only [nrm]
                refine WpT.take (i := 32) rfl (by kernel_rfl) (fun _ _ _ h => h) (.inl ⟨by rfl, fun w hSw => by clear hSw; go_simp; (try go_bits); (try rw [if_pos (by omega)]); (try with_reducible rfl)⟩) (hS) ?_
                try simp only [nrm]
                refine WpT.done (by kernel_rfl) ?_ _
                go_wp2_with fail
                exact ⟨⟨k + 1, by omega, by go_num, bstep hbw hS, HNX⟩, by simp [intOf]; omega⟩
            · have d2 : decide (K = 2) = false := by simpa using hK2
              have d2b : (K == 2) = false := by simpa using hK2
              have hun : undK K v len x = true := by unfold undK; rw [d2]; rfl
              rw [hun] at hv
              have HNX : Hid (C = if chk (undK K v len) (prevD ns (k + 1)) (ns.drop (k + 1)) = true then 0 else 3) := Lib.hid (by rw [hv]; simp)
              clear hun hv HV hpv hp0 cP d2 hK2
              refine wp_region_TB (S := Below (wr).heap.size (wr)) 33 (by kernel_rfl) ?_
              refine WpT.take (i := 0) rfl (by kernel_rfl) (fun _ _ _ h => h) (.inl ⟨by rfl, fun w hSw => by clear hSw; go_simp; (try go_bits); (try rw [if_pos (by omega)]); (try with_reducible rfl)⟩) (hS) ?_
              try simp only [nrm]
              refine WpT.take (i := 1) rfl (by kernel_rfl) (fun _ _ _ h => h) (.inl ⟨by rfl, fun w hSw => by clear hSw; go_simp; (try go_bits); (try rw [if_pos (by omega)]); (try with_reducible rfl)⟩) (hS) ?_
              try simp only [nrm]
              refine WpT.take (i := 2) rfl (by kernel_rfl) (fun _ _ _ h => h) (.inl ⟨by rfl, fun w hSw => by clear hSw; go_simp; (try go_bits); (try rw [if_pos (by omega)]); (try with_reducible rfl)⟩) (hS) ?_
              try simp only [nrm]
              refine WpT.take (i := 3) rfl (by kernel_rfl) (fun _ _ _ h => h) (.inl ⟨by rfl, fun w hSw => by clear hSw; go_simp; (try go_bits); (try rw [if_pos (by omega)]); (try with_reducible rfl)⟩) (hS) ?_
              try simp only [nrm]
              refine WpT.take (i := 4) rfl (by kernel_rfl) (fun _ _ _ h => h) (yields_loadW (by rfl) rfl rfl (by kernel_rfl) cS) (hS) ?_
              try simp only [nrm]
              refine WpT.take (i := 5) rfl (by kernel_rfl) (fun _ _ _ h => h) (.inl ⟨by rfl, fun w hSw => by clear hSw; go_simp; (try go_bits); (try rw [if_pos (by omega)]); (try with_reducible rfl)⟩) (hS) ?_
              try simp only [nrm]
              refine WpT.take (i := 6) rfl (by kernel_rfl) (fun _ _ _ h => h) (.inl ⟨by rfl, fun w hSw => by clear hSw; go_simp; (try go_bits); (try rw [if_pos (by omega)]); (try with_reducible rfl)⟩) (hS) ?_
              try simp only [nrm]
              refine WpT.take (i := 7) rfl (by kernel_rfl) (fun _ _ _ h => h) (.inl ⟨by rfl, fun w hSw => by clear hSw; go_simp; (try go_bits); (try rw [if_pos (by omega)]); (try with_reducible rfl)⟩) (hS) ?_
              try simp only [nrm]
              refine WpT.take (i := 8) rfl (by kernel_rfl) (fun _ _ _ h => h) (yields_loadKW (us := bv (dg z)) (by rfl) rfl rfl aggDg (by rw [sizeDg, bv_dg_len]) hzn) (hS) ?_
              try simp only [nrm]
              refine WpT.take (i := 9) rfl (by kernel_rfl) (fun _ _ _ h => h) (.inl ⟨by rfl, fun w hSw => by clear hSw; go_simp; (try go_bits); (try rw [if_pos (by omega)]); (try with_reducible rfl)⟩) (hS) ?_
              try simp only [nrm]
              refine WpT.take (i := 10) rfl (by kernel_rfl) (fun _ _ _ h => h) (yields_loadW (by rfl) rfl rfl (by kernel_rfl) cS) (hS) ?_
              try simp only [nrm]
              refine WpT.take (i := 11) rfl (by kernel_rfl) (fun _ _ _ h => h) (.inl ⟨by rfl, fun w hSw => by clear hSw; go_simp; (try go_bits); (try rw [if_pos (by omega)]); (try with_reducible rfl)⟩) (hS) ?_
              try simp only [nrm]
              refine WpT.take (i := 12) rfl (by kernel_rfl) (fun _ _ _ h => h) (.inl ⟨by rfl, fun w hSw => by clear hSw; go_simp; (try go_bits); (try rw [if_pos (by omega)]); (try with_reducible rfl)⟩) (hS) ?_
              try simp only [nrm]
              refine WpT.take (i := 13) rfl (by kernel_rfl) (fun _ _ _ h => h) (yields_loadKW (us := bv (dg x)) (by rfl) rfl rfl aggDg (by rw [sizeDg, bv_dg_len]) hc) (hS) ?_
              try simp only [nrm]
              refine WpT.one (i := 14) rfl (by kernel_rfl) (fun K hK => ?_)
              go_simp; refine (HO.out _).mono ?_; rintro e w8 ⟨rfl, hb8⟩; replace hS := bstep hS hb8
              refine hK _ _ (hS) ?_; clear hK K; try simp only [nrm]
              refine WpT.take (i := 15) rfl (by kernel_rfl) (fun _ _ _ h => h) (.inl ⟨by rfl, fun w hSw => by clear hSw; go_simp; (try go_bits); (try rw [if_pos (by omega)]); (try with_reducible rfl)⟩) (hS) ?_
              try simp only [nrm]
              refine WpT.take (i := 16) rfl (by kernel_rfl) (fun _ _ _ h => h) (.inl ⟨by rfl, fun w hSw => by clear hSw; go_simp; (try go_bits); (try rw [if_pos (by omega)]); (try with_reducible rfl)⟩) (hS) ?_
              try simp only [nrm]
              refine WpT.take (i := 17) rfl (by kernel_rfl) (fun _ _ _ h => h) (.inl ⟨by rfl, fun w hSw => by clear hSw; go_simp; (try go_bits); (try rw [if_pos (by omega)]); (try with_reducible rfl)⟩) (hS) ?_
              try simp only [nrm]
              refine WpT.take (i := 18) rfl (by kernel_rfl) (fun _ _ _ h => h) (.inl ⟨by rfl, fun w hSw => by clear hSw; go_simp; (try go_bits); (try rw [if_pos (by omega)]); (try with_reducible rfl)⟩) (hS) ?_
              try simp only [nrm]
              refine WpT.take (i := 19) rfl (by kernel_rfl) (fun _ _ _ h => h) (yields_loadW (by rfl) rfl rfl (by kernel_rfl) c0) (hS) ?_
              try simp only [nrm]
              refine WpT.take (i := 20) rfl (by kernel_rfl) (fun _ _ _ h => h) (.inl ⟨by rfl, fun w hSw => by clear hSw; go_simp; (try go_bits); (try rw [if_pos (by omega)]); (try with_reducible rfl)⟩) (hS) ?_
              try simp only [nrm]
              refine WpT.take (i := 21) rfl (by kernel_rfl) (fun _ _ _ h => h) (.inl ⟨by rfl, fun w hSw => by clear hSw; go_simp; (try go_bits); (try rw [if_pos (by omega)]); (try with_reducible rfl)⟩) (hS) ?_
              try simp only [nrm]
              refine WpT.take (i := 22) rfl (by kernel_rfl) (fun _ _ _ h => h) (.inr ⟨by rfl, rfl⟩) (hS) ?_
              try simp only [nrm]
              refine WpT.take (i := 23) rfl (by kernel_rfl) (fun _ _ _ h => h) (.inr ⟨by rfl, rfl⟩) (hS) ?_
              try simp only [nrm]
              refine WpT.take (i := 24) rfl (by kernel_rfl) (fun _ _ _ h => h) (.inr ⟨by rfl, rfl⟩) (hS) ?_
              try simp only [nrm]
              refine WpT.take (i := 25) rfl (by kernel_rfl) (fun _ _ _ h => h) (.inr ⟨by rfl, rfl⟩) (hS) ?_
              try simp only [nrm]
              refine WpT.take (i := 26) rfl (by kernel_rfl) (fun _ _ _ h => h) (.inr ⟨by rfl, rfl⟩) (hS) ?_
              try simp only [nrm]
              refine WpT.take (i := 27) rfl (by kernel_rfl) (fun _ _ _ h => h) (.inr ⟨by rfl, rfl⟩) (hS) ?_
              try simp only [nrm]
              refine WpT.take (i := 28) rfl (by kernel_rfl) (fun _ _ _ h => h) (.inr ⟨by rfl, rfl⟩) (hS) ?_
              try simp only [nrm]
              refine WpT.take (i := 29) rfl (by kernel_rfl) (fun _ _ _ h => h) (.inr ⟨by rfl, rfl⟩) (hS) ?_
              try simp only [nrm]
              refine WpT.take (i := 30) rfl (by kernel_rfl) (fun _ _ _ h => h) (.inr ⟨by rfl, rfl⟩) (hS) ?_
              try simp only [nrm]
              refine WpT.take (i := 31) rfl (by kernel_rfl) (fun _ _ _ h => h) (.inl ⟨by rfl, fun w hSw => by clear hSw; go_simp; (try go_bits); (try rw [if_pos (by omega)]); (try with_reducible rfl)⟩) (hS) ?_
              try simp only [nrm]
              refine WpT.take (i := 32) rfl (by kernel_rfl) (fun _ _ _ h => h) (.inl ⟨by rfl, fun w hSw => by clear hSw; go_simp; (try go_bits); (try rw [if_pos (by omega)]); (try with_reducible rfl)⟩) (hS) ?_
              try simp only [nrm]
              refine WpT.done (by kernel_rfl) ?_ _
              go_wp2_with fail
              exact ⟨⟨k + 1, by omega, by go_num, bstep hbw hS, HNX⟩, by simp [intOf]; omega⟩
          · have d3 : decide (z < x) = false := by simpa using h3
            simp only [d3, Bool.false_and, Bool.false_eq_true, if_false] at hv
            rw [d3] at HO
            have HX3 : Hid (C = 3) := Lib.hid hv
            clear h3 hv HV hpv hp0 d3
            refine wp_region_TB (S := Below (wr).heap.size (wr)) 33 (by kernel_rfl) ?_
            refine WpT.take (i := 0) rfl (by kernel_rfl) (fun _ _ _ h => h) (.inl ⟨by rfl, fun w hSw => by clear hSw; go_simp; (try go_bits); (try rw [if_pos (by omega)]); (try with_reducible rfl)⟩) (hS) ?_
            try simp only [nrm]
            refine WpT.take (i := 1) rfl (by kernel_rfl) (fun _ _ _ h => h) (.inl ⟨by rfl, fun w hSw => by clear hSw; go_simp; (try go_bits); (try rw [if_pos (by omega)]); (try with_reducible rfl)⟩) (hS) ?_
            try simp only [nrm]
            refine WpT.take (i := 2) rfl (by kernel_rfl) (fun _ _ _ h => h) (.inl ⟨by rfl, fun w hSw => by clear hSw; go_simp; (try go_bits); (try rw [if_pos (by omega)]); (try with_reducible rfl)⟩) (hS) ?_
            try simp only [nrm]
            refine WpT.take (i := 3) rfl (by kernel_rfl) (fun _ _ _ h => h) (.inl ⟨by rfl, fun w hSw => by clear hSw; go_simp; (try go_bits); (try rw [if_pos (by omega)]); (try with_reducible rfl)⟩) (hS) ?_
            try simp only [nrm]
            refine WpT.take (i := 4) rfl (by kernel_rfl) (fun _ _ _ h => h) (yields_loadW (by rfl) rfl rfl (by kernel_rfl) cS) (hS) ?_
            try simp only [nrm]
            refine WpT.take (i := 5) rfl (by kernel_rfl) (fun _ _ _ h => h) (.inl ⟨by rfl, fun w hSw => by clear hSw; go_simp; (try go_bits); (try rw [if_pos (by omega)]); (try with_reducible rfl)⟩) (hS) ?_
            try simp only [nrm]
            refine WpT.take (i := 6) rfl (by kernel_rfl) (fun _ _ _ h => h) (.inl ⟨by rfl, fun w hSw => by clear hSw; go_simp; (try go_bits); (try rw [if_pos (by omega)]); (try with_reducible rfl)⟩) (hS) ?_
            try simp only [nrm]
            refine WpT.take (i := 7) rfl (by kernel_rfl) (fun _ _ _ h => h) (.inl ⟨by rfl, fun w hSw => by clear hSw; go_simp; (try go_bits); (try rw [if_pos (by omega)]); (try with_reducible rfl)⟩) (hS) ?_
            try simp only [nrm]
            refine WpT.take (i := 8) rfl (by kernel_rfl) (fun _ _ _ h => h) (yields_loadKW (us := bv (dg z)) (by rfl) rfl rfl aggDg (by rw [sizeDg, bv_dg_len]) hzn) (hS) ?_
            try simp only [nrm]
            refine WpT.take (i := 9) rfl (by kernel_rfl) (fun _ _ _ h => h) (.inl ⟨by rfl, fun w hSw => by clear hSw; go_simp; (try go_bits); (try rw [if_pos (by omega)]); (try with_reducible rfl)⟩) (hS) ?_
            try simp only [nrm]
            refine WpT.take (i := 10) rfl (by kernel_rfl) (fun _ _ _ h => h) (yields_loadW (by rfl) rfl rfl (by kernel_rfl) cS) (hS) ?_
            try simp only [nrm]
            refine WpT.take (i := 11) rfl (by kernel_rfl) (fun _ _ _ h => h) (.inl ⟨by rfl, fun w hSw => by clear hSw; go_simp; (try go_bits); (try rw [if_pos (by omega)]); (try with_reducible rfl)⟩) (hS) ?_
            try simp only [nrm]
            refine WpT.take (i := 12) rfl (by kernel_rfl) (fun _ _ _ h => h) (.inl ⟨by rfl, fun w hSw => by clear hSw; go_simp; (try go_bits); (try rw [if_pos (by omega)]); (try with_reducible rfl)⟩) (hS) ?_
            try simp only [nrm]
            refine WpT.take (i := 13) rfl (by kernel_rfl) (fun _ _ _ h => h) (yields_loadKW (us := bv (dg x)) (by rfl) rfl rfl aggDg (by rw [sizeDg, bv_dg_len]) hc) (hS) ?_
            try simp only [nrm]
            refine WpT.one (i := 14) rfl (by kernel_rfl) (fun K hK => ?_)
            go_simp; refine (HO.out _).mono ?_; rintro e w8 ⟨rfl, hb8⟩; replace hS := bstep hS hb8
            refine hK _ _ (hS) ?_; clear hK K; try simp only [nrm]
            refine WpT.take (i := 15) rfl (by kernel_rfl) (fun _ _ _ h => h) (.inl ⟨by rfl, fun w hSw => by clear hSw; go_simp; (try go_bits); (try rw [if_pos (by omega)]); (try with_reducible rfl)⟩) (hS) ?_
            try simp only [nrm]
            refine WpT.take (i := 16) rfl (by kernel_rfl) (fun _ _ _ h => h) (.inl ⟨by rfl, fun w hSw => by clear hSw; go_simp; (try go_bits); (try rw [if_pos (by omega)]); (try with_reducible rfl)⟩) (hS) ?_
            try simp only [nrm]
            refine WpT.take (i := 17) rfl (by kernel_rfl) (fun _ _ _ h => h) (.inl ⟨by rfl, fun w hSw => by clear hSw; go_simp; (try go_bits); (try rw [if_pos (by omega)]); (try with_reducible rfl)⟩) (hS) ?_
            try simp only [nrm]
            refine WpT.take (i := 18) rfl (by kernel_rfl) (fun _ _ _ h => h) (.inr ⟨by rfl, rfl⟩) (hS) ?_
            try simp only [nrm]
            refine WpT.take (i := 19) rfl (by kernel_rfl) (fun _ _ _ h => h) (.inr ⟨by rfl, rfl⟩) (hS) ?_
            try simp only [nrm]
            refine WpT.take (i := 20) rfl (by kernel_rfl) (fun _ _ _ h => h) (.inr ⟨by rfl, rfl⟩) (hS) ?_
            try simp only [nrm]
            refine WpT.take (i := 21) rfl (by kernel_rfl) (fun _ _ _ h => h) (.inr ⟨by rfl, rfl⟩) (hS) ?_
            try simp only [nrm]
            refine WpT.take (i := 22) rfl (by kernel_rfl) (fun _ _ _ h => h) (.inr ⟨by rfl, rfl⟩) (hS) ?_
            try simp only [nrm]
            refine WpT.take (i := 23) rfl (by kernel_rfl) (fun _ _ _ h => h) (.inr ⟨by rfl, rfl⟩) (hS) ?_
            try simp only [nrm]
            refine WpT.take (i := 24) rfl (by kernel_rfl) (fun _ _ _ h => h) (.inr ⟨by rfl, rfl⟩) (hS) ?_
            try simp only [nrm]
            refine WpT.take (i := 25) rfl (by kernel_rfl) (fun _ _ _ h => h) (.inr ⟨by rfl, rfl⟩) (hS) ?_
            try simp only [nrm]
            refine WpT.take (i := 26) rfl (by kernel_rfl) (fun _ _ _ h => h) (.inr ⟨by rfl, rfl⟩) (hS) ?_
            try simp only [nrm]
            refine WpT.take (i := 27) rfl (by kernel_rfl) (fun _ _ _ h => h) (.inr ⟨by rfl, rfl⟩) (hS) ?_
            try simp only [nrm]
            refine WpT.take (i := 28) rfl (by kernel_rfl) (fun _ _ _ h => h) (.inr ⟨by rfl, rfl⟩) (hS) ?_
            try simp only [nrm]
            refine WpT.take (i := 29) rfl (by kernel_rfl) (fun _ _ _ h => h) (.inr ⟨by rfl, rfl⟩) (hS) ?_
            try simp only [nrm]
            refine WpT.take (i := 30) rfl (by kernel_rfl) (fun _ _ _ h => h) (.inr ⟨by rfl, rfl⟩) (hS) ?_
            try simp only [nrm]
            refine WpT.take (i := 31) rfl (by kernel_rfl) (fun _ _ _ h => h) (.inr ⟨by rfl, rfl⟩) (hS) ?_
            try simp only [nrm]
            refine WpT.take (i := 32) rfl (by kernel_rfl) (fun _ _ _ h => h) (.inl ⟨by rfl, fun w hSw => by clear hSw; go_simp; (try go_bits); (try rw [if_pos (by omega)]); (try with_reducible rfl)⟩) (hS) ?_
            try simp only [nrm]
            refine WpT.done (by kernel_rfl) ?_ _
            go_wp2_with fail
            go_ret
            exact ⟨by rw [HX3.out]; rfl, bstep hb0 hS⟩
      · obtain rfl : k = nn := by omega
        have hfin : Hid (C = 0) := Lib.hid (by rw [HV.out, List.drop_of_length_le (by have := HNL.out; omega), chk_nil]; rfl)
        go_wp2_with fail
        go_ret
        exact ⟨by rw [hfin.out]; rfl, bstep hb0 (Below.refl _ _)⟩
end Go.Proofs.YtieamjjnofelcaaDoor
namespace Go.Proofs.YtieamjjnofelcaaDoor
set_option linter.unusedSimpArgs false
set_option linter.unusedVariables false
open Go.RowKit Exch
theorem place_false {l : List It} {z : Nat} (hs : SortedN (nms l)) (h : knownN z (nms l) = false) : place l z = -1 := by
  have hn := (known_false hs).1 h
  unfold place
  rw [List.findIdx?_eq_none_iff.2 (fun x hx => by simp only [decide_eq_false_iff_not]; exact fun e => hn (e ▸ List.mem_map_of_mem hx))]
theorem place_true {l : List It} {z : Nat} (hs : SortedN (nms l)) (h : knownN z (nms l) = true) : 0 ≤ place l z := by
  obtain ⟨x, hx, e⟩ := List.mem_map.1 ((known_mem hs).1 h)
  unfold place
  cases hf : l.findIdx? (fun x => decide (x.nm = z)) with
  | none =>
    have := List.findIdx?_eq_none_iff.1 hf x hx
    simp at this
    exact absurd e this
  | some k => exact Int.natCast_nonneg k
abbrev didC (A : Option Addr) (n c : Nat) (vo : Value) (e : Int) : Array Value := #[.slice A n c, vo, .int .i64 e]
theorem aggDid : (Tryd.prog.underlying 41).map isAggDesc = some true := by kernel_rfl
theorem sizeDid : (Tryd.prog.info? 41).map (·.size) = some 3 := by kernel_rfl
theorem zeroDid (W : World) : (zeroValue 41).run Tryd.prog W = .ok (.agg (didC none 0 0 (.slice none 0 0) 0)) W := by kernel_rfl
theorem build_did02 (A : Option Addr) (n c : Nat) (e : Int) (W : World) : (Instr.build 41 #[(0, stV A n c), (2, .int .i64 e)]).run Tryd.prog W = .ok (.agg (didC A n c (.slice none 0 0) e)) W := by kernel_rfl
theorem build_did0 (A : Option Addr) (n c : Nat) (W : World) : (Instr.build 41 #[(0, stV A n c)]).run Tryd.prog W = .ok (.agg (didC A n c (.slice none 0 0) 0)) W := by kernel_rfl
theorem one_didC0 (A : Option Addr) (n c : Nat) (e : Int) : (didC A n c (.slice none 0 0) e).all (·.oneCell') = true := by simp [Value.oneCell']
theorem own_one {w : World} {B : Nat} {e : TypeId} {k n : Nat} {v : Value} {xs : List Value} (h : w.ownsRow B e k v n xs) : v.oneCell' = true := by
  rcases h.2 with ⟨rfl, _⟩ | ⟨_, _, _, rfl, _⟩ <;> rfl
theorem blk_rdL {w : World} {g : Nat} {t : TypeId} {xs : List Value} (h : Blk w g t xs.toArray) : Rd w (some ⟨g, 0, none⟩) xs.length xs := ⟨rfl, fun k u hk => ⟨_, rfl, blk_cells h k u hk⟩⟩
theorem OwnTs.below {w w' : World} {B : Nat} {v : Value} {l : List It} (h : OwnTs w B v l) (hb : Below w.heap.size w w') : OwnTs w' B v l := ownsRow_below h hb
/-- What stands while the list is built: all older blocks, and the variable. -/
structure OutS (g : Nat) (w0 : World) (v : Value) (W : World) : Prop where
  old : Below g w0 W
  blk : Blk W g 24 #[v]
theorem OutS.below {g : Nat} {w0 W W' : World} {v : Value} (h : OutS g w0 v W) (hb : Below W.heap.size W W') : OutS g w0 v W' := ⟨h.old.trans (hb.mono (Nat.le_of_lt h.blk.lt)), h.blk.below hb⟩
/-- What the reference's Add returns. -/
def RAddIs (r : List It × Int) (A0 : Option Addr) (w : World) (e : Ending) (w' : World) : Prop := ∃ A n c, e = .returned (.agg (didC A n c (.slice none 0 0) r.2)) ∧ RdT w' A n r.1 ∧ n ≤ c ∧ c ≤ maxLen ∧ Below w.heap.size w w' ∧ KA w w' A0 A
theorem wpList_lit1T {w : World} {ops : Array Oper} {rest : List Oper} {o : Oper} {a : Act} {Q : Exit → Act → World → Prop} (hgd : o.guard = none) {y : Operand} {x : It} (ho : o.op = .buildSlice 22 1 #[(0, y)]) (hy : a.eval y = itV x)
    (h : ∀ w' g, g = w.heap.size → Blk w' g 50 (itC x) → Below w.heap.size w w' → g < w'.heap.size → wpList Tryd.prog ops Q rest (a.put o.dst (.slice (some ⟨g, 0, none⟩) 1 1)) w') : wpList Tryd.prog ops Q (o :: rest) a w :=
  wpList_plain hgd fun _ hK => wp_lit1T ho hy fun w' g h1 h2 h3 h4 => hK _ _ (h w' g h1 h2 h3 h4)
/-- The list that has been built when k items have been gone through. -/
def outK (l : List It) (x : It) (L k : Nat) : List It := if L < k then l.take L ++ [x] ++ (l.take k).drop L else l.take k
theorem yields_loadKSW {P : Program} {ops : Array Oper} {S : World → Prop} {o : Oper} {a : Act} {t : TypeId} {x : Operand} {p : Addr} {us : List Value} (hw : Region.wanted o (yielded ops a.tmps) = true) (ho : o.op = .load t x) (ha : a.eval x = .pointer (some p))
    (hu : (P.underlying t).map isAggDesc = some true) (hi : (P.info? t).map (·.size) = some us.length) (hc : ∀ W, S W → ∀ j u, us[j]? = some u → W.cell? (p.add j) = some u) : YieldsIf P ops S o (.agg us.toArray) a := by
  refine .inl ⟨hw, fun w hS => ?_⟩
  unfold execOp
  simp only [ho, ha, Instr.loadAt, Instr.sureAddr, Sem.run_bind, Sem.run_pure, Result.andThen_ok, run_loadK (w := w) hu hi (hc w hS)]
theorem yields_load1SW {P : Program} {ops : Array Oper} {S : World → Prop} {o : Oper} {a : Act} {t : TypeId} {x : Operand} {p : Addr} {v : Value} (hw : Region.wanted o (yielded ops a.tmps) = true) (ho : o.op = .load t x) (ha : a.eval x = .pointer (some p))
    (hu : (P.underlying t).map isAggDesc = some false) (hc : ∀ W, S W → W.cell? p = some v) : YieldsIf P ops S o v a := by
  refine .inl ⟨hw, fun w hS => ?_⟩
  unfold execOp
  simp only [ho, ha, Instr.loadAt, Instr.sureAddr, Sem.run_bind, Sem.run_pure, Result.andThen_ok, run_loadVar_one w p t v hu (hc w hS)]
theorem outK_low (l : List It) (x : It) (L k : Nat) (h : k < l.length) (hk : k ≠ L) : outK l x L (k + 1) = outK l x L k ++ [l[k]] := by
  unfold outK
  rw [List.take_succ_eq_append_getElem h]
  by_cases h1 : L < k
  · rw [if_pos (by omega), if_pos h1, List.drop_append_of_le_length (by rw [List.length_take]; omega)]
    simp only [List.append_assoc]
  · rw [if_neg (by omega), if_neg h1]
theorem outK_at (l : List It) (x : It) (k : Nat) (h : k < l.length) : outK l x k (k + 1) = outK l x k k ++ [x] ++ [l[k]] := by
  unfold outK
  rw [if_pos (by omega), if_neg (by omega), List.take_succ_eq_append_getElem h, List.drop_append_of_le_length (by rw [List.length_take]; omega), List.drop_of_length_le (by rw [List.length_take]; omega)]
  simp
theorem outK_len (l : List It) (x : It) (L k : Nat) (h : k ≤ l.length) : (outK l x L k).length ≤ k + 1 := by
  unfold outK
  split
  · simp only [List.length_append, List.length_take, List.length_drop, List.length_singleton]; omega
  · rw [List.length_take]; omega
theorem outK_end (l : List It) (x : It) (h : lowN x.nm (nms l) < l.length) : outK l x (lowN x.nm (nms l)) l.length = insT l x := by
  unfold outK insT
  rw [if_pos h, List.take_length]
theorem outK_end2 (l : List It) (x : It) (h : lowN x.nm (nms l) = l.length) : outK l x (lowN x.nm (nms l)) l.length ++ [x] = insT l x := by
  unfold outK insT
  rw [if_neg (by omega), h, List.take_length, List.drop_length, List.append_nil]
theorem lowN_lt : ∀ {l : List Nat} {z k : Nat} (hk : k < l.length), k < lowN z l → l[k] < z
  | [], z, k, hk, _ => by cases hk
  | x :: l, z, k, hk, h => by
    simp only [lowN] at h
    split at h
    · rename_i hx
      cases k with
      | zero => exact hx
      | succ k => exact lowN_lt (l := l) (by simpa using hk) (by omega)
    · omega
theorem lowN_ge {l : List Nat} {z : Nat} (hs : SortedN l) (hn : z ∉ l) (hk : lowN z l < l.length) : z < l[lowN z l] := by
  induction l with
  | nil => cases hk
  | cons x l ih =>
    obtain ⟨h1, h2⟩ := List.pairwise_cons.1 hs
    simp only [List.mem_cons, not_or] at hn
    by_cases hx : x < z
    · have e : lowN z (x :: l) = lowN z l + 1 := by simp [lowN, hx]
      have h3 : lowN z l < l.length := by rw [e] at hk; simpa using hk
      have := ih h2 hn.2 h3
      simp only [e, List.getElem_cons_succ]
      exact this
    · have e : lowN z (x :: l) = 0 := by simp [lowN, hx]
      simp only [e, List.getElem_cons_zero]
      have := hn.1
      omega
set_option maxRecDepth 20000 in
set_option maxHeartbeats 4000000 in
theorem refAdd_any (l : List It) (A : Option Addr) (m c : Nat) (t : ByteArray) (w : World) (hm : m ≤ 1000) (hr : RdT w A m l) (hnc : m ≤ c) (hcm : c ≤ maxLen) (hl : ∀ x ∈ l, WfT x) (hs : SortedN (nms l)) (hAu : Under A w.heap.size) (ht : t.size ≤ 400) (hg : RCon w) :
    Calls Tryd.prog 19 #[stV A m c, .string t] w (RAddIs (addS l t) A w) := by
  obtain ⟨wa, hwa, hb0, q0, q1⟩ : ∃ wa : World, wa = (w.alloc (.cells (stC A m c) 24)).alloc (.cells (didC none 0 0 (.slice none 0 0) 0) 41) ∧ Below w.heap.size w wa ∧ Blk wa w.heap.size 24 (stC A m c) ∧ Blk wa (w.heap.size + 1) 41 (didC none 0 0 (.slice none 0 0) 0) :=
    ⟨_, rfl, ((Below.refl w.heap.size w).alloc (Nat.le_refl _) _).alloc (by simp) _, (Blk.new _ _ _).alloc _, Blk.new2 _ _ _ _⟩
  have HWA := Lib.hid hwa
  clear hwa
  have d1 : decide ((1048576 : Int) < t.size) = false := by rw [decide_eq_false_iff_not]; omega
  have hsz : t.size ≤ 9223372036854775807 := by omega
  have HN := Lib.hid (refName_any t wa ht (hg.below hb0))
  have HPL := Lib.hid (fun W (h : RdT W A m l) => place_any l A m c (nameOf t) W (by omega) h hl (nameOf_lt t))
  have HR := Lib.hid (hr.below hb0)
  have HRW := Lib.hid hr
  have HL := Lib.hid hr.len
  have HAU := Lib.hid hAu
  have HNC := Lib.hid hnc
  have HCM := Lib.hid hcm
  have HWF := Lib.hid hl
  have HSO := Lib.hid hs
  have hMlt := nameOf_lt t
  unfold addS
  generalize nameOf t = M at *
  have HBI := Lib.hid (build_it M t)
  cases hK : knownN M (nms l)
  · have hpl := place_false hs hK
    have hnk := (known_false hs).1 hK
    rw [hpl] at HPL
    simp only [Bool.false_eq_true, if_false]
    obtain ⟨L, hLL⟩ : ∃ L, lowN M (nms l) = L := ⟨_, rfl⟩
    have hLe : L ≤ m := by have := lowN_le M (nms l); have := hr.len; rw [hLL] at *; simp at *; omega
    have HLT : Hid (∀ k (hk : k < l.length), k < L → l[k].nm < M) := Lib.hid (fun k hk h => by
      have h2 := lowN_lt (l := nms l) (z := M) (k := k) (by simpa using hk) (by rw [hLL]; exact h)
      simpa using h2)
    have HGE : Hid (∀ (hk : L < l.length), M < l[L].nm) := Lib.hid (fun hk => by
      have h2 := lowN_ge (l := nms l) (z := M) hs hnk (by rw [hLL]; simpa using hk)
      simp only [hLL] at h2
      simpa using h2)
    have HE1 : Hid (L < l.length → outK l ⟨M, t⟩ L l.length = insT l ⟨M, t⟩) := Lib.hid (fun h => by
      have h2 := outK_end l ⟨M, t⟩ (by show lowN M (nms l) < l.length; omega)
      simp only [hLL] at h2
      exact h2)
    have HE2 : Hid (L = l.length → outK l ⟨M, t⟩ L l.length ++ [⟨M, t⟩] = insT l ⟨M, t⟩) := Lib.hid (fun h => by
      have h2 := outK_end2 l ⟨M, t⟩ (by show lowN M (nms l) = l.length; omega)
      simp only [hLL] at h2
      exact h2)
    have dm : decide ((65536 : Int) ≤ m) = false := by rw [decide_eq_false_iff_not]; omega
    generalize insT l ⟨M, t⟩ = R at *
    clear hr hl hs hg hK hnk hnc hcm hpl hLL
    go_enter Tryd.func19, Tryd.ntmps19
    go_upto_region 1 with (fail)
    change Code.wp _ _ _ _ ((w.alloc (.cells (stC A m c) 24)).alloc (.cells (didC none 0 0 (.slice none 0 0) 0) 41))
    rw [← HWA.out]
    go_wp2_with fail
    refine HN.out.mono ?_
    rintro e w1 ⟨rfl, hb1⟩
    go_upto_region 4 with first
      | ((with_reducible show wpList _ _ _ (⟨some 5, _, _, _, _, _⟩ :: _) _ _); refine wpList_new (cs := dgC 0) rfl rfl zeroDg ?_; intro w2 g5 hg5 q5 hb2 lt5; have HG5 := Lib.hid hg5; clear hg5)
      | ((with_reducible show wpList _ _ _ (⟨none, _, _, _, _, _⟩ :: _) _ _); refine wpList_put (vs := dgC M) rfl rfl rfl rfl q5 (by rw [dgC_size, dgC_size]) (by rw [sizeDg, dgC_size]) (one_dgC _) ?_; intro w3 ht3 b5)
    have hb := bstep hb1 (hb2.trans (ht3.below _ (by have := HG5.out; omega)))
    replace q0 := q0.below hb
    replace q1 := q1.below hb
    replace hb0 := bstep hb0 hb
    have HR3 := Lib.hid (HR.out.below hb)
    clear hb hb1 hb2 ht3 q5 HG5 lt5 HR HN
    go_wp2_with first
      | ((with_reducible show wpList _ _ _ (⟨some 16, _, _, _, _, _⟩ :: _) _ _); refine wpList_loadRow rfl rfl rfl q0 aggSt (by rw [sizeSt]; rfl) ?_)
      | ((with_reducible show wpList _ _ _ (⟨some 17, _, _, _, _, _⟩ :: _) _ _); refine wpList_loadRow rfl rfl rfl b5 aggDg (by rw [sizeDg, dgC_size]) ?_)
    refine (HPL.out _ HR3.out).mono ?_
    rintro e w4 ⟨rfl, hb4⟩
    replace q0 := q0.below hb4
    replace q1 := q1.below hb4
    replace b5 := b5.below hb4
    replace hb0 := bstep hb0 hb4
    have HR4 := Lib.hid (HR3.out.below hb4)
    have c0 := q0.cell 0
    simp only [List.getElem?_toArray, List.getElem?_cons_zero] at c0
    clear hb4 HPL HR3
    have lt1 := q1.lt
    have lt5 := b5.lt
    go_upto_region 9 with ((with_reducible show wpList _ _ _ (⟨some 6, _, _, _, _, _⟩ :: _) _ _); refine wpList_new rfl rfl zeroSt ?_; intro w5 g6 hg6 b6 hb5 lt6; have HG6 := Lib.hid hg6; clear hg6)
    replace q0 := q0.below hb5
    replace q1 := q1.below hb5
    replace b5 := b5.below hb5
    replace hb0 := bstep hb0 hb5
    have HR5 := Lib.hid (HR4.out.below hb5)
    have hg6w : w.heap.size + 1 < g6 := by have := HG6.out; omega
    have hg56 : g5 < g6 := by have := HG6.out; omega
    clear lt1 lt5
    clear hb5 HR4 c0
    have HBX : Hid (∀ W, Below g6 w5 W → Below w.heap.size w W) := Lib.hid (fun W h => hb0.trans (h.mono (by omega)))
    have HC0 : Hid (∀ W, Below g6 w5 W → W.cell? ⟨w.heap.size, 0, none⟩ = some (.slice A m c)) := Lib.hid (fun W h => by
      have h2 : Blk W w.heap.size 24 (stC A m c) := (h.block _ (by omega)).trans q0
      have h3 := h2.cell 0
      simpa only [List.getElem?_toArray, List.getElem?_cons_zero] using h3)
    have HC5 : Hid (∀ W, Below g6 w5 W → Blk W g5 26 (dgC M)) := Lib.hid (fun W h => (h.block _ hg56).trans b5)
    have HQ1 : Hid (∀ W, Below g6 w5 W → Blk W (w.heap.size + 1) 41 (didC none 0 0 (.slice none 0 0) 0)) := Lib.hid (fun W h => (h.block _ (by omega)).trans q1)
    have HLS := Lib.hid (fun a W (ha : a < 2 ^ 128) => refLess_any M a W hMlt ha)
    clear q0 q1 b5
    have h0 : OwnTs w5 w5.heap.size (.slice none 0 0) (outK l ⟨M, t⟩ L 0) := by
      have e : outK l ⟨M, t⟩ L 0 = [] := by unfold outK; rw [if_neg (by omega)]; rfl
      rw [e]
      exact World.ownsRow_nil w5 _ _ 17
    go_wp2_with fail
    go_loopw [7, 8] (fun v7 vk wr => ∃ (k : Nat) (v : Value) (b : Bool), k ≤ m ∧ vk = .int .i64 k ∧ v7 = .bool b ∧ Hid (b = decide (L < k)) ∧ OutS g6 w5 v wr ∧ OwnTs wr w5.heap.size v (outK l ⟨M, t⟩ L k) ∧ w5.heap.size ≤ wr.heap.size) (fun _ vk _ => m - (intOf vk).toNat)
    case atStart => exact ⟨0, _, false, Nat.zero_le _, rfl, rfl, Lib.hid (by simp), ⟨Below.refl _ _, b6⟩, h0, Nat.le_refl _⟩
    case round =>
      clear h0 b6
      obtain ⟨k, v, b, hk, rfl, rfl, HB, hS0, hown, hsz⟩ := hrel
      have c0w := HC0.out _ hS0.old
      have hg6lt : g6 < w5.heap.size := lt6
      have hg6le : g6 ≤ w5.heap.size := Nat.le_of_lt lt6
      by_cases hlt : k < m
      · have hkl : k < l.length := by have := HL.out; omega
        obtain ⟨ad, had, _⟩ := (HRW.out.below (HBX.out _ hS0.old)).elem hkl
        have HC : Hid (∀ W, Below g6 w5 W → ∀ j u, (itL l[k])[j]? = some u → W.cell? ((ad.add (k * 17)).add j) = some u) := Lib.hid (fun W h j u hj => by
          obtain ⟨ad', e', hc⟩ := (HRW.out.below (HBX.out _ h)).elem hkl
          rw [had] at e'
          obtain rfl := Option.some.inj e'
          exact hc j u hj)
        subst had
        have hxw := (HWF.out _ (List.getElem_mem hkl)).nm
        have hol := outK_len l ⟨M, t⟩ L k (by omega)
        have HLT1 := Lib.hid (HLT.out k hkl)
        have HGE1 : Hid (k = L → M < l[k].nm) := Lib.hid (fun e => by subst e; exact HGE.out hkl)
        have HLOW := Lib.hid (outK_low l ⟨M, t⟩ L k hkl)
        have HAT : Hid (k = L → outK l ⟨M, t⟩ L (k + 1) = outK l ⟨M, t⟩ L k ++ [⟨M, t⟩] ++ [l[k]]) := Lib.hid (fun e => by subst e; exact outK_at l ⟨M, t⟩ k hkl)
        generalize l[k] = x at *
        have HLX := Lib.hid (fun W => HLS.out x.nm W hxw)
        cases b
        · have hLk : ¬ L < k := by have := HB.out; simpa using this.symm
          by_cases hkL : k = L
          · have hd := HGE1.out hkL
            rw [decide_eq_true hd] at HLX
            have hx1 := HAT.out hkL
            have HX1 := Lib.hid hx1
            have HKL := Lib.hid hkL
            clear hx1 hkL hd HLT1 HGE1 HLOW HAT HB hLk
            obtain ⟨X0, hX0⟩ : ∃ X, outK l ⟨M, t⟩ L k = X := ⟨_, rfl⟩
            rw [hX0] at hown hol HX1
            clear hX0
            go_upto_region 13 with fail
            have hS : OutS g6 w5 v wr.drew := hS0.below (Below.refl _ _).drew
            refine wp_region_TS (S := OutS g6 w5 v) 12 (by kernel_rfl) ?_
            refine WpT.take (i := 0) rfl (by kernel_rfl) (fun _ _ _ h => h) (.inl ⟨by rfl, fun w hSw => by clear hSw; go_simp; (try go_bits); (try rw [if_pos (by omega)]); (try with_reducible rfl)⟩) (hS) ?_
            try simp only [nrm]
            refine WpT.take (i := 1) rfl (by kernel_rfl) (fun _ _ _ h => h) (.inl ⟨by rfl, fun w hSw => by clear hSw; go_simp; (try go_bits); (try rw [if_pos (by omega)]); (try with_reducible rfl)⟩) (hS) ?_
            try simp only [nrm]
            refine WpT.take (i := 2) rfl (by kernel_rfl) (fun _ _ _ h => h) (.inl ⟨by rfl, fun w hSw => by clear hSw; go_simp; (try go_bits); (try rw [if_pos (by omega)]); (try with_reducible rfl)⟩) (hS) ?_
            try simp only [nrm]
            refine WpT.take (i := 3) rfl (by kernel_rfl) (fun _ _ _ h => h) (yields_loadKSW (us := bv (dg M)) (by rfl) rfl rfl aggDg (by rw [sizeDg, bv_dg_len]) (fun W h => blk_cells (HC5.out W h.old))) (hS) ?_
            try simp only [nrm]
            refine WpT.take (i := 4) rfl (by kernel_rfl) (fun _ _ _ h => h) (.inl ⟨by rfl, fun w hSw => by clear hSw; go_simp; (try go_bits); (try rw [if_pos (by omega)]); (try with_reducible rfl)⟩) (hS) ?_
            try simp only [nrm]
            refine WpT.take (i := 5) rfl (by kernel_rfl) (fun _ _ _ h => h) (yields_load1SW (by rfl) rfl rfl (by kernel_rfl) (fun W h => HC0.out W h.old)) (hS) ?_
            try simp only [nrm]
            refine WpT.take (i := 6) rfl (by kernel_rfl) (fun _ _ _ h => h) (.inl ⟨by rfl, fun w hSw => by clear hSw; go_simp; (try go_bits); (try rw [if_pos (by omega)]); (try with_reducible rfl)⟩) (hS) ?_
            try simp only [nrm]
            refine WpT.take (i := 7) rfl (by kernel_rfl) (fun _ _ _ h => h) (.inl ⟨by rfl, fun w hSw => by clear hSw; go_simp; (try go_bits); (try rw [if_pos (by omega)]); (try with_reducible rfl)⟩) (hS) ?_
            try simp only [nrm]
            refine WpT.take (i := 8) rfl (by kernel_rfl) (fun _ _ _ h => h) (.inl ⟨by rfl, fun w hSw => by clear hSw; go_simp; (try go_bits); (try rw [if_pos (by omega)]); (try with_reducible rfl)⟩) (hS) ?_
            try simp only [nrm]
            refine WpT.take (i := 9) rfl (by kernel_rfl) (fun _ _ _ h => h) (yields_loadKSW (us := bv (dg x.nm)) (by rfl) rfl rfl aggDg (by rw [sizeDg, bv_dg_len]) (fun W h => it_name (HC.out W h.old))) (hS) ?_
            try simp only [nrm]
            refine WpT.one (i := 10) rfl (by kernel_rfl) (fun K hK => ?_)
            go_simp; refine (HLX.out _).mono ?_; rintro e w6 ⟨rfl, hb6⟩; replace hS := hS.below hb6
            refine hK _ _ (hS) ?_; clear hK K; try simp only [nrm]
            refine WpT.take (i := 11) rfl (by kernel_rfl) (fun _ _ _ h => h) (.inl ⟨by rfl, fun w hSw => by clear hSw; go_simp; (try go_bits); (try rw [if_pos (by omega)]); (try with_reducible rfl)⟩) (hS) ?_
            try simp only [nrm]
            refine WpT.done (by kernel_rfl) ?_ _
            skip
            replace hown := hown.below (bstep (Below.refl _ _).drew hb6)
            have HSZ : Hid (w5.heap.size ≤ w6.heap.size) := Lib.hid (by have := hb6.size; simp at this; omega)
            have b5 := HC5.out _ hS.old
            have c6 := hS.blk.cell 0
            simp only [List.getElem?_toArray, List.getElem?_cons_zero] at c6
            have hbi := HBI.out
            have hS1 := hS
            clear hS hb6 hS0
            have hown1 := hown
            unfold OwnTs at hown1
            go_upto_region 15 with first
              | ((with_reducible show wpList _ _ _ (⟨some 49, _, _, _, _, _⟩ :: _) _ _); refine wpList_loadRow rfl rfl rfl b5 aggDg (by rw [sizeDg, dgC_size]) ?_)
              | ((with_reducible show wpList _ _ _ (⟨some 51, _, _, _, _, _⟩ :: _) _ _); refine wpList_build2 (vx := dgV M) (vy := .string t) rfl rfl rfl rfl hbi ?_)
              | ((with_reducible show wpList _ _ _ (⟨some 52, _, _, _, _, _⟩ :: _) _ _); refine wpList_lit1T rfl (x := ⟨M, t⟩) rfl rfl ?_; intro wJ gJ hgJ bJ hbJ ltJ; clear hgJ; have hS2 := hS1.below hbJ; have hown2 := ownsRow_below hown1 hbJ)
              | ((with_reducible show wpList _ _ _ (⟨some 53, _, _, _, _, _⟩ :: _) _ _); refine wpList_appK rfl rfl elemIt rfl hown2 rfl (m := 1) (ys := itsL [⟨M, t⟩]) (by have h := blk_rdL bJ; rw [itL_len] at h; simpa [itsL] using h) (one_itsL _) (by omega) (by have := hbJ.size; have := HSZ.out; omega) ?_; intro v7 w7 hown7 hg7 hb7; have hne7 := own_ge hown2 hg6lt; have hS7 : OutS g6 w5 v w7 := ⟨hS2.old.trans (hb7.mono hg6le), blk_grown hS2.blk hg7 (fun e => hne7 e.symm)⟩)
              | ((with_reducible show wpList _ _ _ (⟨none, _, _, _, _, _⟩ :: _) _ _); refine wpList_set (j := 0) (v := v7) (cs' := #[v7]) rfl rfl (by kernel_rfl) rfl rfl (own_one hown7) hS7.blk (by simp) (by simp) ?_; intro w10 ht10 b10)
            have hS : OutS g6 w5 v7 w10 := ⟨hS7.old.trans (ht10.below _ (Nat.le_refl _)), b10⟩
            have HSZ : Hid (w5.heap.size ≤ w10.heap.size) := Lib.hid (by have := hb7.size; have := hbJ.size; have := HSZ.out; rw [ht10.size]; omega)
            have hown : OwnTs w10 w5.heap.size v7 (X0 ++ [⟨M, t⟩]) := by
              have h := ht10.own hown7 (own_ge hown7 hg6lt)
              unfold OwnTs
              rw [itsL_app, List.length_append]
              exact h
            have hol : (X0 ++ [(⟨M, t⟩ : It)]).length ≤ k + 2 := by rw [List.length_append]; simp; omega
            obtain ⟨X, hX⟩ : ∃ X, X0 ++ [(⟨M, t⟩ : It)] = X := ⟨_, rfl⟩
            rw [hX] at hown hol HX1
            clear hX hown1 hown2 hown7 hS1 hS2 hS7 hg7 hb7 ht10 b10 bJ hbJ b5 c6
            go_upto_region 16 with fail
            have hS : OutS g6 w5 v7 w10.drew := hS.below (Below.refl _ _).drew
            have how : OwnTs w10.drew w5.heap.size v7 X := hown.below (Below.refl _ _).drew
            unfold OwnTs at how
            refine wp_region_TS (S := OutS g6 w5 v7) 10 (by kernel_rfl) ?_
            refine WpT.take (i := 0) rfl (by kernel_rfl) (fun _ _ _ h => h) (.inl ⟨by rfl, fun w hSw => by clear hSw; go_simp; (try go_bits); (try rw [if_pos (by omega)]); (try with_reducible rfl)⟩) (hS) ?_
            try simp only [nrm]
            refine WpT.take (i := 1) rfl (by kernel_rfl) (fun _ _ _ h => h) (yields_load1S rfl rfl rfl (by kernel_rfl) (fun W h => h.blk.cell 0)) (hS) ?_
            try simp only [nrm]
            refine WpT.take (i := 2) rfl (by kernel_rfl) (fun _ _ _ h => h) (.inl ⟨by rfl, fun w hSw => by clear hSw; go_simp; (try go_bits); (try rw [if_pos (by omega)]); (try with_reducible rfl)⟩) (hS) ?_
            try simp only [nrm]
            refine WpT.take (i := 3) rfl (by kernel_rfl) (fun _ _ _ h => h) (yields_load1S rfl rfl rfl (by kernel_rfl) (fun W h => HC0.out W h.old)) (hS) ?_
            try simp only [nrm]
            refine WpT.take (i := 4) rfl (by kernel_rfl) (fun _ _ _ h => h) (.inl ⟨by rfl, fun w hSw => by clear hSw; go_simp; (try go_bits); (try rw [if_pos (by omega)]); (try with_reducible rfl)⟩) (hS) ?_
            try simp only [nrm]
            refine WpT.take (i := 5) rfl (by kernel_rfl) (fun _ _ _ h => h) (.inl ⟨by rfl, fun w hSw => by clear hSw; go_simp; (try go_bits); (try rw [if_pos (by omega)]); (try with_reducible rfl)⟩) (hS) ?_
            try simp only [nrm]
            refine WpT.take (i := 6) rfl (by kernel_rfl) (fun _ _ _ h => h) (yields_loadS (us := itL x) rfl rfl rfl aggIt (by rw [sizeIt, itL_len]) (fun W h => HC.out W h.old)) (hS) ?_
            try simp only [nrm]
            refine WpT.one (i := 7) rfl (by kernel_rfl) (fun K hK => ?_)
            refine wp_lit1T (x := x) rfl (by rfl) ?_; intro wJ gJ hgJ bJ hbJ ltJ; clear hgJ; replace hS := hS.below hbJ; replace how := ownsRow_below how hbJ
            refine hK _ _ (hS) ?_; clear hK K; try simp only [nrm]
            refine WpT.one (i := 8) rfl (by kernel_rfl) (fun K hK => ?_)
            refine wp_appK rfl elemIt (by rfl) how (by rfl) (m := 1) (ys := itsL [x]) (by have h := blk_rdL bJ; rw [itL_len] at h; simpa [itsL] using h) (one_itsL _) (by omega) (by have h1 : w10.heap.size ≤ wJ.heap.size := hbJ.size; have := HSZ.out; omega) ?_; intro v8 w8 hown8 hg8 hb8; have hne8 := own_ge how hg6lt; replace hS : OutS g6 w5 v7 w8 := ⟨hS.old.trans (hb8.mono hg6le), blk_grown hS.blk hg8 (fun e => hne8 e.symm)⟩
            refine hK _ _ (hS) ?_; clear hK K; try simp only [nrm]
            refine WpT.take (i := 9) rfl (by kernel_rfl) (fun _ _ _ h => h) (.inl ⟨by rfl, fun w hSw => by clear hSw; go_simp; (try go_bits); (try rw [if_pos (by omega)]); (try with_reducible rfl)⟩) (hS) ?_
            try simp only [nrm]
            refine WpT.tail (i := 10) rfl (by kernel_rfl) (by kernel_rfl) (fun K hK => ?_)
            refine wp_set (j := 0) (v := v8) (cs' := #[v8]) rfl (by kernel_rfl) (by rfl) (by rfl) (own_one hown8) hS.blk (by simp) (by simp) ?_; intro w9 ht9 b9
            refine hK _ _ ?_; clear hK K; try simp only [nrm]
            refine WpT.done (by kernel_rfl) ?_ _
            skip
            have hS9 : OutS g6 w5 v8 w9 := ⟨hS.old.trans (ht9.below _ (Nat.le_refl _)), b9⟩
            have hown9 := ht9.own hown8 (own_ge hown8 hg6lt)
            have hsz9 : w5.heap.size ≤ w9.heap.size := by have := hb8.size; have h1 : w10.heap.size ≤ wJ.heap.size := hbJ.size; have := HSZ.out; rw [ht9.size]; omega
            clear hown8 hg8 hb8 ht9 hbJ bJ how
            have hfin : OwnTs w9 w5.heap.size v8 (outK l ⟨M, t⟩ L (k + 1)) := by
              unfold OwnTs
              rw [HX1.out, itsL_app, List.length_append]
              exact hown9
            clear hown9 hown hS HC HX1
            go_wp2_with fail
            exact ⟨⟨k + 1, v8, true, by omega, by go_num, rfl, Lib.hid (by have := HKL.out; simp; omega), hS9, hfin, hsz9⟩, by simp [intOf]; omega⟩
          · have hd : ¬ M < x.nm := by have := HLT1.out (by omega); omega
            rw [decide_eq_false hd] at HLX
            have HX1 := Lib.hid (HLOW.out hkL)
            clear hd HLT1 HGE1 HLOW HAT HB
            obtain ⟨X, hX⟩ : ∃ X, outK l ⟨M, t⟩ L k = X := ⟨_, rfl⟩
            rw [hX] at hown hol HX1
            clear hX
            go_upto_region 13 with fail
            have hS : OutS g6 w5 v wr.drew := hS0.below (Below.refl _ _).drew
            refine wp_region_TS (S := OutS g6 w5 v) 12 (by kernel_rfl) ?_
            refine WpT.take (i := 0) rfl (by kernel_rfl) (fun _ _ _ h => h) (.inl ⟨by rfl, fun w hSw => by clear hSw; go_simp; (try go_bits); (try rw [if_pos (by omega)]); (try with_reducible rfl)⟩) (hS) ?_
            try simp only [nrm]
            refine WpT.take (i := 1) rfl (by kernel_rfl) (fun _ _ _ h => h) (.inl ⟨by rfl, fun w hSw => by clear hSw; go_simp; (try go_bits); (try rw [if_pos (by omega)]); (try with_reducible rfl)⟩) (hS) ?_
            try simp only [nrm]
            refine WpT.take (i := 2) rfl (by kernel_rfl) (fun _ _ _ h => h) (.inl ⟨by rfl, fun w hSw => by clear hSw; go_simp; (try go_bits); (try rw [if_pos (by omega)]); (try with_reducible rfl)⟩) (hS) ?_
            try simp only [nrm]
            refine WpT.take (i := 3) rfl (by kernel_rfl) (fun _ _ _ h => h) (yields_loadKSW (us := bv (dg M)) (by rfl) rfl rfl aggDg (by rw [sizeDg, bv_dg_len]) (fun W h => blk_cells (HC5.out W h.old))) (hS) ?_
            try simp only [nrm]
            refine WpT.take (i := 4) rfl (by kernel_rfl) (fun _ _ _ h => h) (.inl ⟨by rfl, fun w hSw => by clear hSw; go_simp; (try go_bits); (try rw [if_pos (by omega)]); (try with_reducible rfl)⟩) (hS) ?_
            try simp only [nrm]
            refine WpT.take (i := 5) rfl (by kernel_rfl) (fun _ _ _ h => h) (yields_load1SW (by rfl) rfl rfl (by kernel_rfl) (fun W h => HC0.out W h.old)) (hS) ?_
            try simp only [nrm]
            refine WpT.take (i := 6) rfl (by kernel_rfl) (fun _ _ _ h => h) (.inl ⟨by rfl, fun w hSw => by clear hSw; go_simp; (try go_bits); (try rw [if_pos (by omega)]); (try with_reducible rfl)⟩) (hS) ?_
            try simp only [nrm]
            refine WpT.take (i := 7) rfl (by kernel_rfl) (fun _ _ _ h => h) (.inl ⟨by rfl, fun w hSw => by clear hSw; go_simp; (try go_bits); (try rw [if_pos (by omega)]); (try with_reducible rfl)⟩) (hS) ?_
            try simp only [nrm]
            refine WpT.take (i := 8) rfl (by kernel_rfl) (fun _ _ _ h => h) (.inl ⟨by rfl, fun w hSw => by clear hSw; go_simp; (try go_bits); (try rw [if_pos (by omega)]); (try with_reducible rfl)⟩) (hS) ?_
            try simp only [nrm]
            refine WpT.take (i := 9) rfl (by kernel_rfl) (fun _ _ _ h => h) (yields_loadKSW (us := bv (dg x.nm)) (by rfl) rfl rfl aggDg (by rw [sizeDg, bv_dg_len]) (fun W h => it_name (HC.out W h.old))) (hS) ?_
            try simp only [nrm]
            refine WpT.one (i := 10) rfl (by kernel_rfl) (fun K hK => ?_)
            go_simp; refine (HLX.out _).mono ?_; rintro e w6 ⟨rfl, hb6⟩; replace hS := hS.below hb6
            refine hK _ _ (hS) ?_; clear hK K; try simp only [nrm]
            refine WpT.take (i := 11) rfl (by kernel_rfl) (fun _ _ _ h => h) (.inl ⟨by rfl, fun w hSw => by clear hSw; go_simp; (try go_bits); (try rw [if_pos (by omega)]); (try with_reducible rfl)⟩) (hS) ?_
            try simp only [nrm]
            refine WpT.done (by kernel_rfl) ?_ _
            skip
            replace hown := hown.below (bstep (Below.refl _ _).drew hb6)
            have HSZ : Hid (w5.heap.size ≤ w6.heap.size) := Lib.hid (by have := hb6.size; simp at this; omega)
            clear hb6 hS0
            go_upto_region 16 with fail
            have hS : OutS g6 w5 v w6.drew := hS.below (Below.refl _ _).drew
            have how : OwnTs w6.drew w5.heap.size v X := hown.below (Below.refl _ _).drew
            unfold OwnTs at how
            refine wp_region_TS (S := OutS g6 w5 v) 10 (by kernel_rfl) ?_
            refine WpT.take (i := 0) rfl (by kernel_rfl) (fun _ _ _ h => h) (.inl ⟨by rfl, fun w hSw => by clear hSw; go_simp; (try go_bits); (try rw [if_pos (by omega)]); (try with_reducible rfl)⟩) (hS) ?_
            try simp only [nrm]
            refine WpT.take (i := 1) rfl (by kernel_rfl) (fun _ _ _ h => h) (yields_load1S rfl rfl rfl (by kernel_rfl) (fun W h => h.blk.cell 0)) (hS) ?_
            try simp only [nrm]
            refine WpT.take (i := 2) rfl (by kernel_rfl) (fun _ _ _ h => h) (.inl ⟨by rfl, fun w hSw => by clear hSw; go_simp; (try go_bits); (try rw [if_pos (by omega)]); (try with_reducible rfl)⟩) (hS) ?_
            try simp only [nrm]
            refine WpT.take (i := 3) rfl (by kernel_rfl) (fun _ _ _ h => h) (yields_load1S rfl rfl rfl (by kernel_rfl) (fun W h => HC0.out W h.old)) (hS) ?_
            try simp only [nrm]
            refine WpT.take (i := 4) rfl (by kernel_rfl) (fun _ _ _ h => h) (.inl ⟨by rfl, fun w hSw => by clear hSw; go_simp; (try go_bits); (try rw [if_pos (by omega)]); (try with_reducible rfl)⟩) (hS) ?_
            try simp only [nrm]
            refine WpT.take (i := 5) rfl (by kernel_rfl) (fun _ _ _ h => h) (.inl ⟨by rfl, fun w hSw => by clear hSw; go_simp; (try go_bits); (try rw [if_pos (by omega)]); (try with_reducible rfl)⟩) (hS) ?_
            try simp only [nrm]
            refine WpT.take (i := 6) rfl (by kernel_rfl) (fun _ _ _ h => h) (yields_loadS (us := itL x) rfl rfl rfl aggIt (by rw [sizeIt, itL_len]) (fun W h => HC.out W h.old)) (hS) ?_
            try simp only [nrm]
            refine WpT.one (i := 7) rfl (by kernel_rfl) (fun K hK => ?_)
            refine wp_lit1T (x := x) rfl (by rfl) ?_; intro wJ gJ hgJ bJ hbJ ltJ; clear hgJ; replace hS := hS.below hbJ; replace how := ownsRow_below how hbJ
            refine hK _ _ (hS) ?_; clear hK K; try simp only [nrm]
            refine WpT.one (i := 8) rfl (by kernel_rfl) (fun K hK => ?_)
            refine wp_appK rfl elemIt (by rfl) how (by rfl) (m := 1) (ys := itsL [x]) (by have h := blk_rdL bJ; rw [itL_len] at h; simpa [itsL] using h) (one_itsL _) (by omega) (by have h1 : w6.heap.size ≤ wJ.heap.size := hbJ.size; have := HSZ.out; omega) ?_; intro v8 w8 hown8 hg8 hb8; have hne8 := own_ge how hg6lt; replace hS : OutS g6 w5 v w8 := ⟨hS.old.trans (hb8.mono hg6le), blk_grown hS.blk hg8 (fun e => hne8 e.symm)⟩
            refine hK _ _ (hS) ?_; clear hK K; try simp only [nrm]
            refine WpT.take (i := 9) rfl (by kernel_rfl) (fun _ _ _ h => h) (.inl ⟨by rfl, fun w hSw => by clear hSw; go_simp; (try go_bits); (try rw [if_pos (by omega)]); (try with_reducible rfl)⟩) (hS) ?_
            try simp only [nrm]
            refine WpT.tail (i := 10) rfl (by kernel_rfl) (by kernel_rfl) (fun K hK => ?_)
            refine wp_set (j := 0) (v := v8) (cs' := #[v8]) rfl (by kernel_rfl) (by rfl) (by rfl) (own_one hown8) hS.blk (by simp) (by simp) ?_; intro w9 ht9 b9
            refine hK _ _ ?_; clear hK K; try simp only [nrm]
            refine WpT.done (by kernel_rfl) ?_ _
            skip
            have hS9 : OutS g6 w5 v8 w9 := ⟨hS.old.trans (ht9.below _ (Nat.le_refl _)), b9⟩
            have hown9 := ht9.own hown8 (own_ge hown8 hg6lt)
            have hsz9 : w5.heap.size ≤ w9.heap.size := by have := hb8.size; have h1 : w6.heap.size ≤ wJ.heap.size := hbJ.size; have := HSZ.out; rw [ht9.size]; omega
            clear hown8 hg8 hb8 ht9 hbJ bJ how
            have hfin : OwnTs w9 w5.heap.size v8 (outK l ⟨M, t⟩ L (k + 1)) := by
              unfold OwnTs
              rw [HX1.out, itsL_app, List.length_append]
              exact hown9
            clear hown9 hown hS HC HX1
            go_wp2_with fail
            exact ⟨⟨k + 1, v8, false, by omega, by go_num, rfl, Lib.hid (by simp; omega), hS9, hfin, hsz9⟩, by simp [intOf]; omega⟩
        · have hLk : L < k := by have := HB.out; simpa using this.symm
          have HX1 := Lib.hid (HLOW.out (by omega))
          clear HLT1 HGE1 HLOW HAT HB
          obtain ⟨X, hX⟩ : ∃ X, outK l ⟨M, t⟩ L k = X := ⟨_, rfl⟩
          rw [hX] at hown hol HX1
          clear hX
          go_upto_region 13 with fail
          have hS : OutS g6 w5 v wr.drew := hS0.below (Below.refl _ _).drew
          refine wp_region_TS (S := OutS g6 w5 v) 12 (by kernel_rfl) ?_
          refine WpT.take (i := 0) rfl (by kernel_rfl) (fun _ _ _ h => h) (.inl ⟨by rfl, fun w hSw => by clear hSw; go_simp; (try go_bits); (try rw [if_pos (by omega)]); (try with_reducible rfl)⟩) (hS) ?_
          try simp only [nrm]
          refine WpT.take (i := 1) rfl (by kernel_rfl) (fun _ _ _ h => h) (.inl ⟨by rfl, fun w hSw => by clear hSw; go_simp; (try go_bits); (try rw [if_pos (by omega)]); (try with_reducible rfl)⟩) (hS) ?_
          try simp only [nrm]
          refine WpT.take (i := 2) rfl (by kernel_rfl) (fun _ _ _ h => h) (.inl ⟨by rfl, fun w hSw => by clear hSw; go_simp; (try go_bits); (try rw [if_pos (by omega)]); (try with_reducible rfl)⟩) (hS) ?_
          try simp only [nrm]
          refine WpT.take (i := 3) rfl (by kernel_rfl) (fun _ _ _ h => h) (.inr ⟨by rfl, rfl⟩) (hS) ?_
          try simp only [nrm]
          refine WpT.take (i := 4) rfl (by kernel_rfl) (fun _ _ _ h => h) (.inr ⟨by rfl, rfl⟩) (hS) ?_
          try simp only [nrm]
          refine WpT.take (i := 5) rfl (by kernel_rfl) (fun _ _ _ h => h) (.inr ⟨by rfl, rfl⟩) (hS) ?_
          try simp only [nrm]
          refine WpT.take (i := 6) rfl (by kernel_rfl) (fun _ _ _ h => h) (.inr ⟨by rfl, rfl⟩) (hS) ?_
          try simp only [nrm]
          refine WpT.take (i := 7) rfl (by kernel_rfl) (fun _ _ _ h => h) (.inr ⟨by rfl, rfl⟩) (hS) ?_
          try simp only [nrm]
          refine WpT.take (i := 8) rfl (by kernel_rfl) (fun _ _ _ h => h) (.inr ⟨by rfl, rfl⟩) (hS) ?_
          try simp only [nrm]
          refine WpT.take (i := 9) rfl (by kernel_rfl) (fun _ _ _ h => h) (.inr ⟨by rfl, rfl⟩) (hS) ?_
          try simp only [nrm]
          refine WpT.take (i := 10) rfl (by kernel_rfl) (fun _ _ _ h => h) (.inr ⟨by rfl, rfl⟩) (hS) ?_
          try simp only [nrm]
          refine WpT.take (i := 11) rfl (by kernel_rfl) (fun _ _ _ h => h) (.inl ⟨by rfl, fun w hSw => by clear hSw; go_simp; (try go_bits); (try rw [if_pos (by omega)]); (try with_reducible rfl)⟩) (hS) ?_
          try simp only [nrm]
          refine WpT.done (by kernel_rfl) ?_ _
          skip
          replace hown := hown.below (Below.refl _ _).drew
          have HSZ : Hid (w5.heap.size ≤ (wr.drew).heap.size) := Lib.hid hsz
          clear hS0
          go_upto_region 16 with fail
          have hS : OutS g6 w5 v (wr.drew).drew := hS.below (Below.refl _ _).drew
          have how : OwnTs (wr.drew).drew w5.heap.size v X := hown.below (Below.refl _ _).drew
          unfold OwnTs at how
          refine wp_region_TS (S := OutS g6 w5 v) 10 (by kernel_rfl) ?_
          refine WpT.take (i := 0) rfl (by kernel_rfl) (fun _ _ _ h => h) (.inl ⟨by rfl, fun w hSw => by clear hSw; go_simp; (try go_bits); (try rw [if_pos (by omega)]); (try with_reducible rfl)⟩) (hS) ?_
          try simp only [nrm]
          refine WpT.take (i := 1) rfl (by kernel_rfl) (fun _ _ _ h => h) (yields_load1S rfl rfl rfl (by kernel_rfl) (fun W h => h.blk.cell 0)) (hS) ?_
          try simp only [nrm]
          refine WpT.take (i := 2) rfl (by kernel_rfl) (fun _ _ _ h => h) (.inl ⟨by rfl, fun w hSw => by clear hSw; go_simp; (try go_bits); (try rw [if_pos (by omega)]); (try with_reducible rfl)⟩) (hS) ?_
          try simp only [nrm]
          refine WpT.take (i := 3) rfl (by kernel_rfl) (fun _ _ _ h => h) (yields_load1S rfl rfl rfl (by kernel_rfl) (fun W h => HC0.out W h.old)) (hS) ?_
          try simp only [nrm]
          refine WpT.take (i := 4) rfl (by kernel_rfl) (fun _ _ _ h => h) (.inl ⟨by rfl, fun w hSw => by clear hSw; go_simp; (try go_bits); (try rw [if_pos (by omega)]); (try with_reducible rfl)⟩) (hS) ?_
          try simp only [nrm]
          refine WpT.take (i := 5) rfl (by kernel_rfl) (fun _ _ _ h => h) (.inl ⟨by rfl, fun w hSw => by clear hSw; go_simp; (try go_bits); (try rw [if_pos (by omega)]); (try with_reducible rfl)⟩) (hS) ?_
          try simp only [nrm]
          refine WpT.take (i := 6) rfl (by kernel_rfl) (fun _ _ _ h => h) (yields_loadS (us := itL x) rfl rfl rfl aggIt (by rw [sizeIt, itL_len]) (fun W h => HC.out W h.old)) (hS) ?_
          try simp only [nrm]
          refine WpT.one (i := 7) rfl (by kernel_rfl) (fun K hK => ?_)
          refine wp_lit1T (x := x) rfl (by rfl) ?_; intro wJ gJ hgJ bJ hbJ ltJ; clear hgJ; replace hS := hS.below hbJ; replace how := ownsRow_below how hbJ
          refine hK _ _ (hS) ?_; clear hK K; try simp only [nrm]
          refine WpT.one (i := 8) rfl (by kernel_rfl) (fun K hK => ?_)
          refine wp_appK rfl elemIt (by rfl) how (by rfl) (m := 1) (ys := itsL [x]) (by have h := blk_rdL bJ; rw [itL_len] at h; simpa [itsL] using h) (one_itsL _) (by omega) (by have h1 : (wr.drew).heap.size ≤ wJ.heap.size := hbJ.size; have := HSZ.out; omega) ?_; intro v8 w8 hown8 hg8 hb8; have hne8 := own_ge how hg6lt; replace hS : OutS g6 w5 v w8 := ⟨hS.old.trans (hb8.mono hg6le), blk_grown hS.blk hg8 (fun e => hne8 e.symm)⟩
          refine hK _ _ (hS) ?_; clear hK K; try simp only [nrm]
          refine WpT.take (i := 9) rfl (by kernel_rfl) (fun _ _ _ h => h) (.inl ⟨by rfl, fun w hSw => by clear hSw; go_simp; (try go_bits); (try rw [if_pos (by omega)]); (try with_reducible rfl)⟩) (hS) ?_
          try simp only [nrm]
          refine WpT.tail (i := 10) rfl (by kernel_rfl) (by kernel_rfl) (fun K hK => ?_)
          refine wp_set (j := 0) (v := v8) (cs' := #[v8]) rfl (by kernel_rfl) (by rfl) (by rfl) (own_one hown8) hS.blk (by simp) (by simp) ?_; intro w9 ht9 b9
          refine hK _ _ ?_; clear hK K; try simp only [nrm]
          refine WpT.done (by kernel_rfl) ?_ _
          skip
          have hS9 : OutS g6 w5 v8 w9 := ⟨hS.old.trans (ht9.below _ (Nat.le_refl _)), b9⟩
          have hown9 := ht9.own hown8 (own_ge hown8 hg6lt)
          have hsz9 : w5.heap.size ≤ w9.heap.size := by have := hb8.size; have h1 : (wr.drew).heap.size ≤ wJ.heap.size := hbJ.size; have := HSZ.out; rw [ht9.size]; omega
          clear hown8 hg8 hb8 ht9 hbJ bJ how
          have hfin : OwnTs w9 w5.heap.size v8 (outK l ⟨M, t⟩ L (k + 1)) := by
            unfold OwnTs
            rw [HX1.out, itsL_app, List.length_append]
            exact hown9
          clear hown9 hown hS HC HX1
          go_wp2_with fail
          exact ⟨⟨k + 1, v8, true, by omega, by go_num, rfl, Lib.hid (by simp; omega), hS9, hfin, hsz9⟩, by simp [intOf]; omega⟩
      · obtain rfl : k = m := by omega
        have hlm := HL.out
        have hol := outK_len l ⟨M, t⟩ L k (by omega)
        cases b
        · have hLk : ¬ L < k := by have := HB.out; simpa using this.symm
          have HE : Hid (outK l ⟨M, t⟩ L k ++ [⟨M, t⟩] = R) := Lib.hid (by have h := HE2.out (by omega); rwa [hlm] at h)
          clear HE1 HE2 HLT HGE HLS HB hlm
          obtain ⟨X0, hX0⟩ : ∃ X, outK l ⟨M, t⟩ L k = X := ⟨_, rfl⟩
          rw [hX0] at hown hol HE
          clear hX0
          have b5 := HC5.out _ hS0.old
          have c6 := hS0.blk.cell 0
          simp only [List.getElem?_toArray, List.getElem?_cons_zero] at c6
          have hbi := HBI.out
          have hown1 := hown
          unfold OwnTs at hown1
          go_upto_region 19 with first
            | ((with_reducible show wpList _ _ _ (⟨some 69, _, _, _, _, _⟩ :: _) _ _); refine wpList_loadRow rfl rfl rfl b5 aggDg (by rw [sizeDg, dgC_size]) ?_)
            | ((with_reducible show wpList _ _ _ (⟨some 71, _, _, _, _, _⟩ :: _) _ _); refine wpList_build2 (vx := dgV M) (vy := .string t) rfl rfl rfl rfl hbi ?_)
            | ((with_reducible show wpList _ _ _ (⟨some 72, _, _, _, _, _⟩ :: _) _ _); refine wpList_lit1T rfl (x := ⟨M, t⟩) rfl rfl ?_; intro wJ gJ hgJ bJ hbJ ltJ; clear hgJ; have hS2 := hS0.below hbJ; have hown2 := ownsRow_below hown1 hbJ)
            | ((with_reducible show wpList _ _ _ (⟨some 73, _, _, _, _, _⟩ :: _) _ _); refine wpList_appK rfl rfl elemIt rfl hown2 rfl (m := 1) (ys := itsL [⟨M, t⟩]) (by have h := blk_rdL bJ; rw [itL_len] at h; simpa [itsL] using h) (one_itsL _) (by omega) (by have := hbJ.size; omega) ?_; intro v7 w7 hown7 hg7 hb7; have hne7 := own_ge hown2 hg6lt; have hS7 : OutS g6 w5 v w7 := ⟨hS2.old.trans (hb7.mono hg6le), blk_grown hS2.blk hg7 (fun e => hne7 e.symm)⟩)
            | ((with_reducible show wpList _ _ _ (⟨none, _, _, _, _, _⟩ :: _) _ _); refine wpList_set (j := 0) (v := v7) (cs' := #[v7]) rfl rfl (by kernel_rfl) rfl rfl (own_one hown7) hS7.blk (by simp) (by simp) ?_; intro w10 ht10 b10)
          have hS : OutS g6 w5 v7 w10 := ⟨hS7.old.trans (ht10.below _ (Nat.le_refl _)), b10⟩
          have hown : OwnTs w10 w5.heap.size v7 R := by
            have h := ht10.own hown7 (own_ge hown7 hg6lt)
            rw [← HE.out]
            unfold OwnTs
            rw [itsL_app, List.length_append]
            exact h
          clear hown1 hown2 hown7 hS2 hS7 hg7 hb7 ht10 b10 bJ hbJ b5 c6 hol
          unfold OwnTs at hown
          obtain ⟨A9, c9, rfl, h91, h92, hr9⟩ := ownsRow_form hown
          have q1 := HQ1.out _ hS.old
          have hb := HBX.out _ hS.old
          have ha : Away A9 (w.heap.size + 1) := own_away hown (by omega)
          go_wp2_with first
            | ((with_reducible show wpList _ _ _ (⟨some 75, _, _, _, _, _⟩ :: _) _ _); refine wpList_loadRow rfl rfl rfl hS.blk aggSt (by rw [sizeSt]; rfl) ?_)
            | ((with_reducible show wpList _ _ _ (⟨some 76, _, _, _, _, _⟩ :: _) _ _); refine wpList_build1 rfl rfl rfl (build_did0 A9 R.length c9) ?_)
            | ((with_reducible show wpList _ _ _ (⟨none, _, _, _, _, _⟩ :: _) _ _); refine wpList_put (vs := didC A9 R.length c9 (.slice none 0 0) 0) rfl rfl rfl rfl q1 rfl (by rw [sizeDid]; rfl) (one_didC0 _ _ _ _) ?_; intro w11 ht11 b11)
          exact ret_blk rfl rfl rfl b11 aggDid (by rw [sizeDid]; rfl) ⟨A9, R.length, c9, rfl, ⟨rfl, hr9.turned ht11 ha⟩, h91, h92, hb.trans (ht11.below _ (by omega)), (KA.own hown (by omega)).sized ht11.size⟩
        · have hLk : L < k := by have := HB.out; simpa using this.symm
          have hown : OwnTs wr w5.heap.size v R := by have h := HE1.out (by omega); rw [hlm] at h; rw [← h]; exact hown
          have hS := hS0
          clear HE1 HE2 HLT HGE HLS HB hlm hol
          unfold OwnTs at hown
          obtain ⟨A9, c9, rfl, h91, h92, hr9⟩ := ownsRow_form hown
          have q1 := HQ1.out _ hS.old
          have hb := HBX.out _ hS.old
          have ha : Away A9 (w.heap.size + 1) := own_away hown (by omega)
          go_wp2_with first
            | ((with_reducible show wpList _ _ _ (⟨some 75, _, _, _, _, _⟩ :: _) _ _); refine wpList_loadRow rfl rfl rfl hS.blk aggSt (by rw [sizeSt]; rfl) ?_)
            | ((with_reducible show wpList _ _ _ (⟨some 76, _, _, _, _, _⟩ :: _) _ _); refine wpList_build1 rfl rfl rfl (build_did0 A9 R.length c9) ?_)
            | ((with_reducible show wpList _ _ _ (⟨none, _, _, _, _, _⟩ :: _) _ _); refine wpList_put (vs := didC A9 R.length c9 (.slice none 0 0) 0) rfl rfl rfl rfl q1 rfl (by rw [sizeDid]; rfl) (one_didC0 _ _ _ _) ?_; intro w11 ht11 b11)
          exact ret_blk rfl rfl rfl b11 aggDid (by rw [sizeDid]; rfl) ⟨A9, R.length, c9, rfl, ⟨rfl, hr9.turned ht11 ha⟩, h91, h92, hb.trans (ht11.below _ (by omega)), (KA.own hown (by omega)).sized ht11.size⟩
  · have hpl := place_true hs hK
    simp only [if_true]
    have dpl : decide (0 ≤ place l M) = true := by simpa using hpl
    generalize place l M = PL at *
    clear hr hl hs hg hK hnc hcm hpl
    go_enter Tryd.func19, Tryd.ntmps19
    go_upto_region 1 with (fail)
    change Code.wp _ _ _ _ ((w.alloc (.cells (stC A m c) 24)).alloc (.cells (didC none 0 0 (.slice none 0 0) 0) 41))
    rw [← HWA.out]
    go_wp2_with fail
    refine HN.out.mono ?_
    rintro e w1 ⟨rfl, hb1⟩
    go_upto_region 4 with first
      | ((with_reducible show wpList _ _ _ (⟨some 5, _, _, _, _, _⟩ :: _) _ _); refine wpList_new (cs := dgC 0) rfl rfl zeroDg ?_; intro w2 g5 hg5 q5 hb2 lt5; have HG5 := Lib.hid hg5; clear hg5)
      | ((with_reducible show wpList _ _ _ (⟨none, _, _, _, _, _⟩ :: _) _ _); refine wpList_put (vs := dgC M) rfl rfl rfl rfl q5 (by rw [dgC_size, dgC_size]) (by rw [sizeDg, dgC_size]) (one_dgC _) ?_; intro w3 ht3 b5)
    have hb := bstep hb1 (hb2.trans (ht3.below _ (by have := HG5.out; omega)))
    replace q0 := q0.below hb
    replace q1 := q1.below hb
    replace hb0 := bstep hb0 hb
    have HR3 := Lib.hid (HR.out.below hb)
    clear hb hb1 hb2 ht3 q5 HG5 lt5 HR HN
    go_wp2_with first
      | ((with_reducible show wpList _ _ _ (⟨some 16, _, _, _, _, _⟩ :: _) _ _); refine wpList_loadRow rfl rfl rfl q0 aggSt (by rw [sizeSt]; rfl) ?_)
      | ((with_reducible show wpList _ _ _ (⟨some 17, _, _, _, _, _⟩ :: _) _ _); refine wpList_loadRow rfl rfl rfl b5 aggDg (by rw [sizeDg, dgC_size]) ?_)
    refine (HPL.out _ HR3.out).mono ?_
    rintro e w4 ⟨rfl, hb4⟩
    replace q0 := q0.below hb4
    replace q1 := q1.below hb4
    replace hb0 := bstep hb0 hb4
    clear hb4 HPL HR3 b5
    go_wp2_with first
      | ((with_reducible show wpList _ _ _ (⟨some 20, _, _, _, _, _⟩ :: _) _ _); refine wpList_loadRow rfl rfl rfl q0 aggSt (by rw [sizeSt]; rfl) ?_)
      | ((with_reducible show wpList _ _ _ (⟨some 21, _, _, _, _, _⟩ :: _) _ _); refine wpList_build2 (vx := stV A m c) (vy := .int .i64 6) rfl rfl rfl rfl (build_did02 A m c 6) ?_)
      | ((with_reducible show wpList _ _ _ (⟨none, _, _, _, _, _⟩ :: _) _ _); refine wpList_put (vs := didC A m c (.slice none 0 0) 6) rfl rfl rfl rfl q1 rfl (by rw [sizeDid]; rfl) (one_didC0 _ _ _ _) ?_; intro w11 ht11 b11)
    exact ret_blk rfl rfl rfl b11 aggDid (by rw [sizeDid]; rfl) ⟨A, m, c, rfl, ⟨HL.out, (HRW.out.below hb0).rd.turned ht11 (HAU.out.away (by omega))⟩, HNC.out, HCM.out, hb0.trans (ht11.below _ (by omega)), KA.refl _ _⟩
end Go.Proofs.YtieamjjnofelcaaDoor
namespace Go.Proofs.YtieamjjnofelcaaDoor
set_option linter.unusedSimpArgs false
set_option linter.unusedVariables false
open Go.RowKit Exch
theorem own_ne_blk' {w : World} {B : Nat} {e : TypeId} {k n : Nat} {v : Value} {xs : List Value} (h : w.ownsRow B e k v n xs) {g : Nat} {T : TypeId} {cs : Array Value} (hb : Blk w g T cs) (hT : e ≠ T) : v.ownBlock ≠ some g := fun e1 => by
  rcases h.2 with ⟨rfl, _⟩ | ⟨g2, cap, cur, rfl, _, hh, _⟩
  · cases e1
  · have e2 : g2 = g := Option.some.inj e1
    subst e2
    have h2 : w.heap[g2]? = _ := hb
    rw [hh] at h2
    injection h2 with h3
    injection h3 with _ h4
    exact hT h4
theorem bx_grown' {wa w w' : World} {X B : Nat} {row : Option Nat} (h : Below X wa w) (hg : w.grownBy w' row) (hX : X ≤ B) (hr : ∀ g, row = some g → B ≤ g) (hw : X ≤ w.heap.size) : Below X wa w' := h.grown hg hw fun k e => Nat.le_trans hX (hr k e)
theorem findIdx_none' {l : List It} {n : Nat} : l.findIdx? (fun x => decide (x.nm = n)) = none ↔ n ∉ nms l := by
  rw [List.findIdx?_eq_none_iff]
  simp [nms]
theorem place_cases' {b : List It} (hb : SortedN (nms b)) (n : Nat) : (place b n = -1 ∧ n ∉ nms b) ∨ ∃ (k : Nat) (h : k < b.length), place b n = k ∧ b[k].nm = n ∧ textOf b n = b[k].tx ∧ n ∈ nms b := by
  unfold place
  cases hf : b.findIdx? (fun x => decide (x.nm = n)) with
  | none => exact .inl ⟨rfl, findIdx_none'.1 hf⟩
  | some k =>
    obtain ⟨hk, h1, _⟩ := List.findIdx?_eq_some_iff_getElem.1 hf
    have hn : b[k].nm = n := by simpa using h1
    have hm : n ∈ nms b := by rw [← hn]; exact List.mem_map_of_mem (List.getElem_mem _)
    refine .inr ⟨k, hk, rfl, hn, ?_, hm⟩
    obtain ⟨hl, e⟩ := knownN_get ((known_mem hb).2 hm)
    have hl2 : lowN n (nms b) < b.length := by simpa using hl
    have e2 : b[lowN n (nms b)].nm = n := by simpa using e
    have hk2 : lowN n (nms b) = k := by
      have hlt : ∀ (i j : Nat) (hi : i < b.length) (hj : j < b.length), i < j → b[i].nm < b[j].nm := fun i j hi hj hij => by
        have := List.pairwise_iff_getElem.1 hb i j (by simpa using hi) (by simpa using hj) hij
        simpa using this
      rcases Nat.lt_trichotomy (lowN n (nms b)) k with h | h | h
      · have := hlt _ _ hl2 hk h; omega
      · exact h
      · have := hlt _ _ hk hl2 h; omega
    unfold textOf
    rw [List.getElem?_eq_getElem hl2]
    dsimp only
    simp only [hk2]
end Go.Proofs.YtieamjjnofelcaaDoor
namespace Go.Proofs.YtieamjjnofelcaaDoor
set_option linter.unusedSimpArgs false
set_option linter.unusedVariables false
open Go.RowKit Exch
set_option maxRecDepth 20000 in
set_option maxHeartbeats 1000000 in
theorem has_any (ns : List Nat) (A : Option Addr) (n c z : Nat) (w : World) (hn : n ≤ 100000) (hr : RdD w A n ns) (hl : ∀ x ∈ ns, x < 2 ^ 128) (hz : z < 2 ^ 128) :
    Calls Tryd.prog 57 #[.slice A n c, dgV z] w fun e w' => e = .returned (.bool (decide (z ∈ ns))) ∧ Below w.heap.size w w' := by
  obtain ⟨wa, hwa, hb0, q0⟩ : ∃ wa : World, wa = w.alloc (.cells (dgC z) 26) ∧ Below w.heap.size w wa ∧ Blk wa w.heap.size 26 (dgC z) :=
    ⟨_, rfl, (Below.refl _ _).alloc (Nat.le_refl _) _, Blk.new _ _ _⟩
  have HWA := Lib.hid hwa
  clear hwa
  have HR := Lib.hid hr
  have HL := Lib.hid hr.len
  have HW := Lib.hid hl
  have HV0 : Hid (∀ (j : Nat) (h : j < ns.length), j < 0 → ns[j] ≠ z) := Lib.hid (fun j h hj => absurd hj (Nat.not_lt_zero _))
  obtain ⟨V, hV⟩ : ∃ V, decide (z ∈ ns) = V := ⟨_, rfl⟩
  rw [hV]
  have HV := Lib.hid hV
  clear hr hl hV
  go_enter Tryd.func57, Tryd.ntmps57
  go_upto_region 1 with (fail)
  change Code.wp _ _ _ _ (w.alloc (.cells (dgC z) 26))
  rw [← HWA.out]
  go_wp2_with fail
  go_loopw [5] (fun vk wr => ∃ k : Nat, k ≤ n ∧ vk = .int .i64 k ∧ Below wa.heap.size wa wr ∧ Hid (∀ (j : Nat) (h : j < ns.length), j < k → ns[j] ≠ z)) (fun vk _ => n - (intOf vk).toNat)
  case atStart => exact ⟨0, Nat.zero_le _, rfl, Below.refl _ _, HV0⟩
  case round =>
    obtain ⟨k, hk, rfl, hbw, HNO⟩ := hrel
    replace q0 := q0.below hbw
    replace hb0 := bstep hb0 hbw
    by_cases hlt : k < n
    · have hkl : k < ns.length := by have := HL.out; omega
      obtain ⟨ad, rfl, hc⟩ := (HR.out.below hb0).elem hkl
      have hwf := HW.out _ (List.getElem_mem hkl)
      have heq := eql_Dg hwf hz
      have HIN : Hid (ns[k] = z → V = true) := Lib.hid (fun e => by rw [← HV.out]; simp [← e])
      have HN1 : Hid (ns[k] ≠ z → ∀ (j : Nat) (h : j < ns.length), j < k + 1 → ns[j] ≠ z) := Lib.hid (fun e j h hj => by
        rcases Nat.lt_or_ge j k with h1 | h1
        · exact HNO.out j h h1
        · obtain rfl : j = k := by omega
          exact e)
      generalize ns[k] = x at *
      clear hwf
      by_cases hx : x = z
      · have hv := HIN.out hx
        subst hv
        have dx : decide (x = z) = true := by simpa using hx
        rw [dx] at heq
        clear hx
        go_upto_region 4 with fail
        refine wp_region_T 6 (by kernel_rfl) ?_
        refine WpT.take (i := 0) rfl (by kernel_rfl) (fun _ _ _ h => h) (.inl ⟨by rfl, fun w hSw => by clear hSw; go_simp; (try go_bits); (try rw [if_pos (by omega)]); (try with_reducible rfl)⟩) ((Below.refl _ _).drew) ?_
        try simp only [nrm]
        refine WpT.take (i := 1) rfl (by kernel_rfl) (fun _ _ _ h => h) (.inl ⟨by rfl, fun w hSw => by clear hSw; go_simp; (try go_bits); (try rw [if_pos (by omega)]); (try with_reducible rfl)⟩) ((Below.refl _ _).drew) ?_
        try simp only [nrm]
        refine WpT.take (i := 2) rfl (by kernel_rfl) (fun _ _ _ h => h) (.inl ⟨by rfl, fun w hSw => by clear hSw; go_simp; (try go_bits); (try rw [if_pos (by omega)]); (try with_reducible rfl)⟩) ((Below.refl _ _).drew) ?_
        try simp only [nrm]
        refine WpT.take (i := 3) rfl (by kernel_rfl) (fun _ _ _ h => h) (yields_loadK (us := bv (dg x)) rfl rfl rfl aggDg (by rw [sizeDg, bv_dg_len]) hc) ((Below.refl _ _).drew) ?_
        try simp only [nrm]
        refine WpT.take (i := 4) rfl (by kernel_rfl) (fun _ _ _ h => h) (yields_blk rfl rfl rfl aggDg (by rw [sizeDg, dgC_size]) q0) ((Below.refl _ _).drew) ?_
        try simp only [nrm]
        refine WpT.take (i := 5) rfl (by kernel_rfl) (fun _ _ _ h => h) (.inl ⟨by rfl, fun w hSw => by clear hSw; go_simp; (try go_bits); (try rw [if_pos (by omega)]); (try with_reducible rfl)⟩) ((Below.refl _ _).drew) ?_
        try simp only [nrm]
        refine WpT.done (by kernel_rfl) ?_ _
        skip
        go_wp2_with fail
        go_ret
        exact ⟨rfl, hb0.trans ⟨rfl, rfl, rfl, Nat.le_refl _, fun _ _ => rfl⟩⟩
      · have hn2 := HN1.out hx
        have HN2 := Lib.hid hn2
        have dx : decide (x = z) = false := by simpa using hx
        rw [dx] at heq
        clear hx hn2
        go_upto_region 4 with fail
        refine wp_region_T 6 (by kernel_rfl) ?_
        refine WpT.take (i := 0) rfl (by kernel_rfl) (fun _ _ _ h => h) (.inl ⟨by rfl, fun w hSw => by clear hSw; go_simp; (try go_bits); (try rw [if_pos (by omega)]); (try with_reducible rfl)⟩) ((Below.refl _ _).drew) ?_
        try simp only [nrm]
        refine WpT.take (i := 1) rfl (by kernel_rfl) (fun _ _ _ h => h) (.inl ⟨by rfl, fun w hSw => by clear hSw; go_simp; (try go_bits); (try rw [if_pos (by omega)]); (try with_reducible rfl)⟩) ((Below.refl _ _).drew) ?_
        try simp only [nrm]
        refine WpT.take (i := 2) rfl (by kernel_rfl) (fun _ _ _ h => h) (.inl ⟨by rfl, fun w hSw => by clear hSw; go_simp; (try go_bits); (try rw [if_pos (by omega)]); (try with_reducible rfl)⟩) ((Below.refl _ _).drew) ?_
        try simp only [nrm]
        refine WpT.take (i := 3) rfl (by kernel_rfl) (fun _ _ _ h => h) (yields_loadK (us := bv (dg x)) rfl rfl rfl aggDg (by rw [sizeDg, bv_dg_len]) hc) ((Below.refl _ _).drew) ?_
        try simp only [nrm]
        refine WpT.take (i := 4) rfl (by kernel_rfl) (fun _ _ _ h => h) (yields_blk rfl rfl rfl aggDg (by rw [sizeDg, dgC_size]) q0) ((Below.refl _ _).drew) ?_
        try simp only [nrm]
        refine WpT.take (i := 5) rfl (by kernel_rfl) (fun _ _ _ h => h) (.inl ⟨by rfl, fun w hSw => by clear hSw; go_simp; (try go_bits); (try rw [if_pos (by omega)]); (try with_reducible rfl)⟩) ((Below.refl _ _).drew) ?_
        try simp only [nrm]
        refine WpT.done (by kernel_rfl) ?_ _
        skip
        go_wp2_with fail
        exact ⟨⟨k + 1, by omega, by go_num, hbw.drew, HN2⟩, by simp [intOf]; omega⟩
    · obtain rfl : n = k := by omega
      have hv : V = false := by
        rw [← HV.out, decide_eq_false_iff_not]
        intro hm
        obtain ⟨j, hj, e⟩ := List.getElem_of_mem hm
        exact HNO.out j hj (by have := HL.out; omega) e
      subst hv
      go_wp2_with fail
      go_ret
      exact ⟨rfl, hb0⟩
end Go.Proofs.YtieamjjnofelcaaDoor
namespace Go.Proofs.YtieamjjnofelcaaDoor
set_option linter.unusedSimpArgs false
set_option linter.unusedVariables false
open Go.RowKit Exch
/-- What the reference's Hear returns. -/
def RHearIs (r : List It × List Pa × Int) (w : World) (e : Ending) (w' : World) : Prop :=
  ∃ (A : Option Addr) (n c : Nat) (vo : Value) (rs : List PaR), e = .returned (.agg (didC A n c vo r.2.2)) ∧ RdT w' A n r.1 ∧ OutP w' w.heap.size vo rs ∧ rs.map (·.p) = r.2.1 ∧ Below w.heap.size w w'
/-- What stands while the answers are gathered: all older blocks, and the variable. -/
structure DidS (g : Nat) (w0 : World) (A : Option Addr) (m c : Nat) (vo : Value) (W : World) : Prop where
  old : Below g w0 W
  blk : Blk W g 41 (didC A m c vo 0)
section
variable {g m c : Nat} {A : Option Addr} {w0 W W' : World} {vo v' : Value}
theorem DidS.below (h : DidS g w0 A m c vo W) (hb : Below W.heap.size W W') : DidS g w0 A m c vo W' := ⟨h.old.trans (hb.mono (Nat.le_of_lt h.blk.lt)), h.blk.below hb⟩
/-- .. while a row of another type grows. -/
theorem DidS.grown (h : DidS g w0 A m c vo W) {u : Value} {B n k : Nat} {e : TypeId} {xs : List Value} (ho : W.ownsRow B e k u n xs) (hT : e ≠ 41) (hg : W.grownBy W' u.ownBlock) (hgB : g ≤ B) (hB : Below B W W') : DidS g w0 A m c vo W' :=
  ⟨h.old.trans (hB.mono hgB), blk_grown h.blk hg (fun e1 => own_ne_blk' ho h.blk hT e1.symm)⟩
theorem DidS.grown2 (h : DidS g w0 A m c vo W) {u : Value} {B n k : Nat} {e : TypeId} {xs : List Value} (ho : W.ownsRow B e k u n xs) (hT : e ≠ 41) (hg : W.grownBy W' u.ownBlock) (hgB : g ≤ B) : DidS g w0 A m c vo W' :=
  ⟨bx_grown' h.old hg hgB (fun r e => (World.ownsRow.lt ho r e).1) (Nat.le_of_lt h.blk.lt), blk_grown h.blk hg (fun e1 => own_ne_blk' ho h.blk hT e1.symm)⟩
theorem DidS.outC (h : DidS g w0 A m c vo W) : W.cell? ⟨g, 1, none⟩ = some vo := h.blk.cell 1
theorem OutP.one {B : Nat} {rs : List PaR} (h : OutP W B vo rs) : vo.oneCell' = true := own_one h.1
/-- One more answer. -/
theorem OutP.app {B : Nat} {rs ks : List PaR} (h : OutP W B vo rs) (hn : ∀ r ∈ ks, OwnDs W B (.slice r.A r.n r.c) r.p.names) (ho : W'.ownsRow B 47 37 v' (rs.length + ks.length) (paRs rs ++ paRs ks)) (hg : W.grownBy W' vo.ownBlock) : OutP W' B v' (rs ++ ks) :=
  ⟨by rw [List.length_append, paRs_app]; exact ho, fun r hr => (List.mem_append.1 hr).elim (fun h1 => own_grown (h.2 r h1) hg (own_ne_own (h.2 r h1) h.1 (by decide))) (fun h1 => own_grown (hn r h1) hg (own_ne_own (hn r h1) h.1 (by decide)))⟩
theorem OutP.turnedD {C : Nat} {rs : List PaR} (h : OutP W C vo rs) {cs : Array Value} (hb : Blk W g 41 cs) (ht : Turned g W W') : OutP W' C vo rs :=
  ⟨ht.own h.1 (own_ne_blk' h.1 hb (by decide)), fun r hr => ht.own (h.2 r hr) (own_ne_blk' (h.2 r hr) hb (by decide))⟩
end
theorem one_didC (A : Option Addr) (n c : Nat) (vo : Value) (e : Int) (h : vo.oneCell' = true) : (didC A n c vo e).all (·.oneCell') = true := by
  rw [Array.all_eq_true]
  intro i hi
  have hi3 : i < 3 := hi
  rcases (by omega : i = 0 ∨ i = 1 ∨ i = 2) with rfl | rfl | rfl
  · rfl
  · exact h
  · rfl
theorem rest_succ (l : List It) (p : Px) (ns : List Nat) (k : Nat) (h : k < l.length) : restL (undL (l.take (k + 1)) p) ns = restL (undL (l.take k) p) ns ++ (if (under p l[k].nm && !knownN l[k].nm ns) = true then [textP l[k].tx] else []) := by
  rw [List.take_succ_eq_append_getElem h]
  unfold undL restL
  rw [List.filter_append, List.filter_append, List.map_append]
  congr 1
  cases h1 : under p l[k].nm <;> cases h2 : knownN l[k].nm ns <;> simp [List.filter, h1, h2]
theorem placed {l : List It} (hs : SortedN (nms l)) (z : Nat) : (knownN z (nms l) = false ∧ place l z = -1) ∨ ∃ (k : Nat) (hk : k < l.length), knownN z (nms l) = true ∧ place l z = k ∧ textOf l z = l[k].tx := by
  rcases place_cases' hs z with ⟨h1, h2⟩ | ⟨k, hk, h1, _, h3, h4⟩
  · exact .inl ⟨(known_false hs).2 h2, h1⟩
  · exact .inr ⟨k, hk, (known_mem hs).2 h4, h1, h3⟩
theorem has_known {ns : List Nat} (hs : SortedN ns) (z : Nat) : decide (z ∈ ns) = knownN z ns := by
  cases h : knownN z ns with
  | true => rw [decide_eq_true_eq]; exact (known_mem hs).1 h
  | false => rw [decide_eq_false_iff_not]; exact (known_false hs).1 h
/-- What a parcel that is right brings. -/
theorem right_parcel {P : Pa} (h : checkP P = 0) : (rightB P.v P.len = true) ∧ chk (undK P.kind P.v P.len) none P.names = true ∧ 1 ≤ P.kind ∧ P.kind ≤ 4 := by
  unfold checkP at h
  by_cases h1 : P.kind < 1 ∨ 4 < P.kind
  · rw [if_pos h1] at h; exact absurd h (by decide)
  · rw [if_neg h1] at h
    by_cases h2 : (fieldsB P && (rightB P.v P.len && (decide (0 ≤ P.count) && (decide (P.count ≤ 65536) && chk (undK P.kind P.v P.len) none P.names)))) = true
    · simp only [Bool.and_eq_true] at h2
      exact ⟨h2.2.1, h2.2.2.2.2, by omega, by omega⟩
    · rw [if_neg h2] at h; exact absurd h (by decide)
set_option maxRecDepth 20000 in
set_option maxHeartbeats 8000000 in
theorem rhear_err (l : List It) (A : Option Addr) (m c : Nat) (P : Pa) (An : Option Addr) (nn cn : Nat) (E : Int) (w : World) (hs : StAt w (fun _ => False) A m c l) (hl : l.length ≤ 900) (hp : PaAt w (fun _ => False) ⟨P, An, nn, cn⟩) (hg : RCon w) (hck : checkP P = E) (hE : E ≠ 0) :
    Calls Tryd.prog 34 #[stV A m c, paV P An nn cn] w (RHearIs (l, [], E) w) := by
  obtain ⟨wa, hwa, hb0, q2, q3, q4⟩ : ∃ wa : World, wa = ((w.alloc (.cells (stC A m c) 24)).alloc (.cells (paC P An nn cn) 47)).alloc (.cells (didC none 0 0 (.slice none 0 0) 0) 41) ∧ Below w.heap.size w wa ∧ Blk wa w.heap.size 24 (stC A m c) ∧ Blk wa (w.heap.size + 1) 47 (paC P An nn cn) ∧ Blk wa (w.heap.size + 1 + 1) 41 (didC none 0 0 (.slice none 0 0) 0) :=
    ⟨_, rfl, (((Below.refl w.heap.size w).alloc (Nat.le_refl _) _).alloc (by simp) _).alloc (by simp; omega) _, ((Blk.new _ _ _).alloc _).alloc _, (Blk.new2 _ _ _ _).alloc _, by simpa [Blk] using Blk.new ((w.alloc (.cells (stC A m c) 24)).alloc (.cells (paC P An nn cn) 47)) 41 (didC none 0 0 (.slice none 0 0) 0)⟩
  have HWA := Lib.hid hwa
  clear hwa
  have HST := Lib.hid (fun W (h : Below w.heap.size w W) => hs.below h)
  have HAW := Lib.hid hs.un
  have HPA := Lib.hid (fun W (h : Below w.heap.size w W) => hp.below h)
  have HG := Lib.hid (fun W (h : Below w.heap.size w W) => hg.below h)
  have HLL := Lib.hid hl
  have HLN := Lib.hid hs.rd.len
  have HNN : Hid (P.names.length = nn) := Lib.hid hp.rd.len
  have HSO := Lib.hid hs.vl.so
  have HOK : Hid (PaOk P) := Lib.hid hp.ok
  obtain ⟨V, hV⟩ : ∃ V, paC P An nn cn = V := ⟨_, rfl⟩
  have hPs : V.size = 37 := by rw [← hV]; exact paC_size P An nn cn
  have HQ : Hid (∀ W, Blk W (w.heap.size + 1) 47 V → W.cell? ⟨w.heap.size + 1, 0, none⟩ = some (.int .i64 P.kind) ∧ W.cell? ⟨w.heap.size + 1, 34, none⟩ = some (.int .i64 P.count) ∧ W.cell? ⟨w.heap.size + 1, 35, none⟩ = some (.slice An nn cn) ∧ W.cell? ⟨w.heap.size + 1, 36, none⟩ = some (.string P.text) ∧ (∀ j u, (pxL P.v P.len)[j]? = some u → W.cell? ((⟨w.heap.size + 1, 1, none⟩ : Addr).add j) = some u) ∧ (∀ j u, (bv (dg P.sum))[j]? = some u → W.cell? ((⟨w.heap.size + 1, 18, none⟩ : Addr).add j) = some u)) := Lib.hid (fun W h => by
    rw [← hV] at h
    exact ⟨h.paK, h.paN, h.paS, h.paT, h.paP, h.paD⟩)
  have hln := hs.rd.len
  have hnn : nn ≤ 1000 := by have := hp.ok.len; have := HNN.out; simp only at *; omega
  have HCH : Hid (Calls Tryd.prog 36 #[.agg V] wa fun e w' => e = .returned (.int .i64 E) ∧ Below wa.heap.size wa w') := Lib.hid (by
    rw [← hV]
    have h := refCheck_any P An nn cn wa HOK.out.v HOK.out.sum (HPA.out _ hb0).rd hnn HOK.out.lt (by have := HOK.out.text; omega)
    rw [hck] at h
    exact h)
  have n1 : (E != 0) = true := by simpa using hE
  have n2 : decide (E = 0) = false := by simpa using hE
  clear hE
  show Calls _ _ #[_, .agg (paC P An nn cn)] _ _
  rw [hV] at q3 HWA ⊢
  clear hV hs hp hg hl hck
  have hbx := Below.refl wa.heap.size wa
  go_enter Tryd.func34, Tryd.ntmps34
  go_upto_region 1 with (fail)
  change Code.wp _ _ _ _ (((w.alloc (.cells (stC A m c) 24)).alloc (.cells V 47)).alloc (.cells (didC none 0 0 (.slice none 0 0) 0) 41))
  rw [← HWA.out]
  go_wp2_with ((with_reducible show wpList _ _ _ (⟨some 15, _, _, _, _, _⟩ :: _) _ _); refine wpList_loadRow rfl rfl rfl q3 aggPa (by rw [sizePa, hPs]) ?_)
  refine HCH.out.mono ?_
  rintro e w1 ⟨rfl, hb1⟩
  have hw1 := hb0.size
  replace q2 := q2.below hb1
  replace q3 := q3.below hb1
  replace q4 := q4.below hb1
  replace hb0 := bstep hb0 hb1
  clear hb1 HCH HWA hbx
  clear HQ HNN HSO HOK HPA
  go_wp2_with first
    | ((with_reducible show wpList _ _ _ (⟨some 19, _, _, _, _, _⟩ :: _) _ _); refine wpList_loadRow rfl rfl rfl q2 aggSt (by rw [sizeSt]; rfl) ?_)
    | ((with_reducible show wpList _ _ _ (⟨some 21, _, _, _, _, _⟩ :: _) _ _); refine wpList_build2 (vx := stV A m c) (vy := .int .i64 E) rfl rfl rfl rfl (build_did02 A m c E) ?_)
    | ((with_reducible show wpList _ _ _ (⟨none, _, _, _, _, _⟩ :: _) _ _); refine wpList_put (vs := didC A m c (.slice none 0 0) E) rfl rfl rfl rfl q4 rfl (by rw [sizeDid]; rfl) (one_didC0 _ _ _ _) ?_; intro w11 ht11 b11)
  have hb := hb0.trans (ht11.below _ (by omega))
  exact ret_blk rfl rfl rfl b11 aggDid (by rw [sizeDid]; rfl) ⟨A, m, c, _, [], rfl, (HST.out _ hb).rd, OutP.nil _ _, rfl, hb⟩
set_option maxRecDepth 20000 in
set_option maxHeartbeats 8000000 in
theorem rhear_text (l : List It) (A : Option Addr) (m c : Nat) (P : Pa) (An : Option Addr) (nn cn : Nat) (w : World) (hs : StAt w (fun _ => False) A m c l) (hl : l.length ≤ 900) (hp : PaAt w (fun _ => False) ⟨P, An, nn, cn⟩) (hg : RCon w) (hck : checkP P = 0) (hk : P.kind = 4) :
    Calls Tryd.prog 34 #[stV A m c, paV P An nn cn] w (RHearIs ((addS l P.text).1, [], (addS l P.text).2) w) := by
  obtain ⟨wa, hwa, hb0, q2, q3, q4⟩ : ∃ wa : World, wa = ((w.alloc (.cells (stC A m c) 24)).alloc (.cells (paC P An nn cn) 47)).alloc (.cells (didC none 0 0 (.slice none 0 0) 0) 41) ∧ Below w.heap.size w wa ∧ Blk wa w.heap.size 24 (stC A m c) ∧ Blk wa (w.heap.size + 1) 47 (paC P An nn cn) ∧ Blk wa (w.heap.size + 1 + 1) 41 (didC none 0 0 (.slice none 0 0) 0) :=
    ⟨_, rfl, (((Below.refl w.heap.size w).alloc (Nat.le_refl _) _).alloc (by simp) _).alloc (by simp; omega) _, ((Blk.new _ _ _).alloc _).alloc _, (Blk.new2 _ _ _ _).alloc _, by simpa [Blk] using Blk.new ((w.alloc (.cells (stC A m c) 24)).alloc (.cells (paC P An nn cn) 47)) 41 (didC none 0 0 (.slice none 0 0) 0)⟩
  have HWA := Lib.hid hwa
  clear hwa
  have HST := Lib.hid (fun W (h : Below w.heap.size w W) => hs.below h)
  have HAW := Lib.hid hs.un
  have HPA := Lib.hid (fun W (h : Below w.heap.size w W) => hp.below h)
  have HG := Lib.hid (fun W (h : Below w.heap.size w W) => hg.below h)
  have HLL := Lib.hid hl
  have HLN := Lib.hid hs.rd.len
  have HNN : Hid (P.names.length = nn) := Lib.hid hp.rd.len
  have HSO := Lib.hid hs.vl.so
  have HOK : Hid (PaOk P) := Lib.hid hp.ok
  obtain ⟨V, hV⟩ : ∃ V, paC P An nn cn = V := ⟨_, rfl⟩
  have hPs : V.size = 37 := by rw [← hV]; exact paC_size P An nn cn
  have HQ : Hid (∀ W, Blk W (w.heap.size + 1) 47 V → W.cell? ⟨w.heap.size + 1, 0, none⟩ = some (.int .i64 P.kind) ∧ W.cell? ⟨w.heap.size + 1, 34, none⟩ = some (.int .i64 P.count) ∧ W.cell? ⟨w.heap.size + 1, 35, none⟩ = some (.slice An nn cn) ∧ W.cell? ⟨w.heap.size + 1, 36, none⟩ = some (.string P.text) ∧ (∀ j u, (pxL P.v P.len)[j]? = some u → W.cell? ((⟨w.heap.size + 1, 1, none⟩ : Addr).add j) = some u) ∧ (∀ j u, (bv (dg P.sum))[j]? = some u → W.cell? ((⟨w.heap.size + 1, 18, none⟩ : Addr).add j) = some u)) := Lib.hid (fun W h => by
    rw [← hV] at h
    exact ⟨h.paK, h.paN, h.paS, h.paT, h.paP, h.paD⟩)
  have hln := hs.rd.len
  have hnn : nn ≤ 1000 := by have := hp.ok.len; have := HNN.out; simp only at *; omega
  have HCH : Hid (Calls Tryd.prog 36 #[.agg V] wa fun e w' => e = .returned (.int .i64 0) ∧ Below wa.heap.size wa w') := Lib.hid (by
    rw [← hV]
    have h := refCheck_any P An nn cn wa HOK.out.v HOK.out.sum (HPA.out _ hb0).rd hnn HOK.out.lt (by have := HOK.out.text; omega)
    rw [hck] at h
    exact h)
  have hkk := hk
  rw [hk] at HQ
  have HAD := Lib.hid (fun W (h : Below w.heap.size w W) => refAdd_any l A m c P.text W (by omega) (HST.out W h).rd (HST.out W h).nc (HST.out W h).cm (HST.out W h).vl.wf (HST.out W h).vl.so (HST.out W h).un (by have := HOK.out.text; omega) (HG.out W h))
  obtain ⟨r, hr⟩ : ∃ r, addS l P.text = r := ⟨_, rfl⟩
  rw [hr] at HAD ⊢
  clear hr hk hkk
  show Calls _ _ #[_, .agg (paC P An nn cn)] _ _
  rw [hV] at q3 HWA ⊢
  clear hV hs hp hg hl hck
  have hbx := Below.refl wa.heap.size wa
  go_enter Tryd.func34, Tryd.ntmps34
  go_upto_region 1 with (fail)
  change Code.wp _ _ _ _ (((w.alloc (.cells (stC A m c) 24)).alloc (.cells V 47)).alloc (.cells (didC none 0 0 (.slice none 0 0) 0) 41))
  rw [← HWA.out]
  go_wp2_with ((with_reducible show wpList _ _ _ (⟨some 15, _, _, _, _, _⟩ :: _) _ _); refine wpList_loadRow rfl rfl rfl q3 aggPa (by rw [sizePa, hPs]) ?_)
  refine HCH.out.mono ?_
  rintro e w1 ⟨rfl, hb1⟩
  have hw1 := hb0.size
  replace q2 := q2.below hb1
  replace q3 := q3.below hb1
  replace q4 := q4.below hb1
  replace hb0 := bstep hb0 hb1
  clear hb1 HCH HWA hbx
  obtain ⟨ck, -, -, ct, -, -⟩ := HQ.out _ q3
  clear HQ
  generalize P.text = T at *
  go_wp2_with first
    | ((with_reducible show wpList _ _ _ (⟨some 25, _, _, _, _, _⟩ :: _) _ _); refine wpList_loadRow rfl rfl rfl q2 aggSt (by rw [sizeSt]; rfl) ?_)
  refine (HAD.out _ hb0).mono ?_
  rintro e w2 ⟨A5, n5, c5, rfl, hr5, hn5, hc5, hb2, hka⟩
  have hl4 := q4.lt
  have hu4 := (HST.out _ hb0).un
  have hsz1 := hb0.size
  have HKA : Hid (KA w1 w2 A A5 → Away A5 (w.heap.size + 1 + 1)) := Lib.hid (fun h => h.away hl4 (HAW.out.away (by omega)))
  replace q4 := q4.below hb2
  replace hb0 := bstep hb0 hb2
  clear hb2
  go_wp2_with ((with_reducible show wpList _ _ _ (⟨none, _, _, _, _, _⟩ :: _) _ _); refine wpList_put (vs := didC A5 n5 c5 (.slice none 0 0) r.2) rfl rfl rfl rfl q4 rfl (by rw [sizeDid]; rfl) (one_didC0 _ _ _ _) ?_; intro w11 ht11 b11)
  have hb := hb0.trans (ht11.below _ (by omega))
  exact ret_blk rfl rfl rfl b11 aggDid (by rw [sizeDid]; rfl) ⟨A5, n5, c5, _, [], rfl, hr5.turned ht11 (HKA.out hka), OutP.nil _ _, rfl, hb⟩
set_option maxRecDepth 20000 in
set_option maxHeartbeats 8000000 in
theorem rhear_want (l : List It) (A : Option Addr) (m c : Nat) (P : Pa) (An : Option Addr) (nn cn : Nat) (w : World) (hs : StAt w (fun _ => False) A m c l) (hl : l.length ≤ 900) (hp : PaAt w (fun _ => False) ⟨P, An, nn, cn⟩) (hg : RCon w) (hck : checkP P = 0) (hk : P.kind = 3) :
    Calls Tryd.prog 34 #[stV A m c, paV P An nn cn] w (RHearIs (l, wantL l P.names, 0) w) := by
  obtain ⟨wa, hwa, hb0, q2, q3, q4⟩ : ∃ wa : World, wa = ((w.alloc (.cells (stC A m c) 24)).alloc (.cells (paC P An nn cn) 47)).alloc (.cells (didC none 0 0 (.slice none 0 0) 0) 41) ∧ Below w.heap.size w wa ∧ Blk wa w.heap.size 24 (stC A m c) ∧ Blk wa (w.heap.size + 1) 47 (paC P An nn cn) ∧ Blk wa (w.heap.size + 1 + 1) 41 (didC none 0 0 (.slice none 0 0) 0) :=
    ⟨_, rfl, (((Below.refl w.heap.size w).alloc (Nat.le_refl _) _).alloc (by simp) _).alloc (by simp; omega) _, ((Blk.new _ _ _).alloc _).alloc _, (Blk.new2 _ _ _ _).alloc _, by simpa [Blk] using Blk.new ((w.alloc (.cells (stC A m c) 24)).alloc (.cells (paC P An nn cn) 47)) 41 (didC none 0 0 (.slice none 0 0) 0)⟩
  have HWA := Lib.hid hwa
  clear hwa
  have HST := Lib.hid (fun W (h : Below w.heap.size w W) => hs.below h)
  have HAW := Lib.hid hs.un
  have HPA := Lib.hid (fun W (h : Below w.heap.size w W) => hp.below h)
  have HG := Lib.hid (fun W (h : Below w.heap.size w W) => hg.below h)
  have HLL := Lib.hid hl
  have HLN := Lib.hid hs.rd.len
  have HNN : Hid (P.names.length = nn) := Lib.hid hp.rd.len
  have HSO := Lib.hid hs.vl.so
  have HOK : Hid (PaOk P) := Lib.hid hp.ok
  obtain ⟨V, hV⟩ : ∃ V, paC P An nn cn = V := ⟨_, rfl⟩
  have hPs : V.size = 37 := by rw [← hV]; exact paC_size P An nn cn
  have HQ : Hid (∀ W, Blk W (w.heap.size + 1) 47 V → W.cell? ⟨w.heap.size + 1, 0, none⟩ = some (.int .i64 P.kind) ∧ W.cell? ⟨w.heap.size + 1, 34, none⟩ = some (.int .i64 P.count) ∧ W.cell? ⟨w.heap.size + 1, 35, none⟩ = some (.slice An nn cn) ∧ W.cell? ⟨w.heap.size + 1, 36, none⟩ = some (.string P.text) ∧ (∀ j u, (pxL P.v P.len)[j]? = some u → W.cell? ((⟨w.heap.size + 1, 1, none⟩ : Addr).add j) = some u) ∧ (∀ j u, (bv (dg P.sum))[j]? = some u → W.cell? ((⟨w.heap.size + 1, 18, none⟩ : Addr).add j) = some u)) := Lib.hid (fun W h => by
    rw [← hV] at h
    exact ⟨h.paK, h.paN, h.paS, h.paT, h.paP, h.paD⟩)
  have hln := hs.rd.len
  have hnn : nn ≤ 1000 := by have := hp.ok.len; have := HNN.out; simp only at *; omega
  have HCH : Hid (Calls Tryd.prog 36 #[.agg V] wa fun e w' => e = .returned (.int .i64 0) ∧ Below wa.heap.size wa w') := Lib.hid (by
    rw [← hV]
    have h := refCheck_any P An nn cn wa HOK.out.v HOK.out.sum (HPA.out _ hb0).rd hnn HOK.out.lt (by have := HOK.out.text; omega)
    rw [hck] at h
    exact h)
  have hkk := hk
  rw [hk] at HQ
  obtain ⟨ns, hns⟩ : ∃ ns, P.names = ns := ⟨_, rfl⟩
  have HRN : Hid (∀ W, Below w.heap.size w W → RdD W An nn ns) := Lib.hid (fun W h => by rw [← hns]; exact (HPA.out W h).rd)
  have HLT : Hid (∀ z ∈ ns, z < 2 ^ 128) := Lib.hid (by rw [← hns]; exact HOK.out.lt)
  have HNL : Hid (ns.length = nn) := Lib.hid (by rw [← hns]; exact HNN.out)
  rw [hns]
  have HPL := Lib.hid (fun z (hz : z < 2 ^ 128) W (h : Below w.heap.size w W) => place_any l A m c z W (by omega) (HST.out W h).rd (HST.out W h).vl.wf hz)
  clear hk hkk hns
  show Calls _ _ #[_, .agg (paC P An nn cn)] _ _
  rw [hV] at q3 HWA ⊢
  clear hV hs hp hg hl hck
  have hbx := Below.refl wa.heap.size wa
  go_enter Tryd.func34, Tryd.ntmps34
  go_upto_region 1 with (fail)
  change Code.wp _ _ _ _ (((w.alloc (.cells (stC A m c) 24)).alloc (.cells V 47)).alloc (.cells (didC none 0 0 (.slice none 0 0) 0) 41))
  rw [← HWA.out]
  go_wp2_with ((with_reducible show wpList _ _ _ (⟨some 15, _, _, _, _, _⟩ :: _) _ _); refine wpList_loadRow rfl rfl rfl q3 aggPa (by rw [sizePa, hPs]) ?_)
  refine HCH.out.mono ?_
  rintro e w1 ⟨rfl, hb1⟩
  have hw1 := hb0.size
  replace q2 := q2.below hb1
  replace q3 := q3.below hb1
  replace q4 := q4.below hb1
  replace hb0 := bstep hb0 hb1
  clear hb1 HCH HWA hbx
  obtain ⟨ck, -, -, -, -, -⟩ := HQ.out _ q3
  go_upto_region 7 with first
    | ((with_reducible show wpList _ _ _ (⟨some 29, _, _, _, _, _⟩ :: _) _ _); refine wpList_loadRow rfl rfl rfl q2 aggSt (by rw [sizeSt]; rfl) ?_)
    | ((with_reducible show wpList _ _ _ (⟨some 30, _, _, _, _, _⟩ :: _) _ _); refine wpList_build1 rfl rfl rfl (build_did0 A m c) ?_)
    | ((with_reducible show wpList _ _ _ (⟨some 6, _, _, _, _, _⟩ :: _) _ _); refine wpList_new rfl rfl zeroDid ?_; intro w5 g6 hg6 q6 hb5 lt6; have HG6 := Lib.hid hg6; clear hg6)
    | ((with_reducible show wpList _ _ _ (⟨none, _, _, _, _, _⟩ :: _) _ _); refine wpList_put (vs := didC A m c (.slice none 0 0) 0) rfl rfl rfl rfl q6 rfl (by rw [sizeDid]; rfl) (one_didC0 _ _ _ _) ?_; intro w6 ht6 b6)
  have hbn := hb5.trans (ht6.below _ (by have := HG6.out; omega))
  have hgg : w.heap.size + 1 + 1 < g6 := by have := HG6.out; have := q4.lt; omega
  have lt6' : g6 < w6.heap.size := by rw [ht6.size]; exact lt6
  replace q2 := q2.below hbn
  replace q3 := q3.below hbn
  replace q4 := q4.below hbn
  replace hb0 := bstep hb0 hbn
  have HQ2 : Hid (∀ W, Below g6 w6 W → Blk W w.heap.size 24 (stC A m c)) := Lib.hid (fun W h => (h.block _ (by omega)).trans q2)
  have HQ3 : Hid (∀ W, Below g6 w6 W → Blk W (w.heap.size + 1) 47 V) := Lib.hid (fun W h => (h.block _ (by omega)).trans q3)
  have HQ4 : Hid (∀ W, Below g6 w6 W → Blk W (w.heap.size + 1 + 1) 41 (didC none 0 0 (.slice none 0 0) 0)) := Lib.hid (fun W h => (h.block _ hgg).trans q4)
  have HBX : Hid (∀ W, Below g6 w6 W → Below w.heap.size w W) := Lib.hid (fun W h => hb0.trans (h.mono (by omega)))
  have hsw : w.heap.size ≤ w6.heap.size := hb0.size
  have hS0 : DidS g6 w6 A m c (.slice none 0 0) w6 := ⟨Below.refl _ _, b6⟩
  have HG6W : Hid (g6 ≤ w6.heap.size) := Lib.hid (Nat.le_of_lt lt6')
  clear q2 q3 q4 hb0 hbn hb5 ht6 q6 b6 lt6 HG6
  have ck2 := (HQ.out _ (HQ3.out _ hS0.old)).1
  clear ck
  have cs := (HQ.out _ (HQ3.out _ hS0.old)).2.2.1
  go_wp2_with (fail)
  clear ck2 cs
  go_loopw [7] (fun v7 wr => ∃ (k : Nat) (vo : Value) (rs : List PaR), v7 = .int .i64 k ∧ k ≤ nn ∧ DidS g6 w6 A m c vo wr ∧ OutP wr w6.heap.size vo rs ∧ Hid (rs.map (·.p) = wantL l (ns.take k)) ∧ Hid (rs.length ≤ k) ∧ w6.heap.size ≤ wr.heap.size) (fun v7 _ => nn - (intOf v7).toNat)
  case atStart => exact ⟨0, _, [], rfl, Nat.zero_le _, hS0, OutP.nil _ _, Lib.hid rfl, Lib.hid (Nat.le_refl _), Nat.le_refl _⟩
  case round =>
    clear hS0
    obtain ⟨k, vo, rs, rfl, hk, hS, hout, HM, HRL, hsz⟩ := hrel
    have hrl := HRL.out
    have cs := (HQ.out _ (HQ3.out _ hS.old)).2.2.1
    by_cases hlt : k < nn
    · have dlt : decide ((k : Int) < nn) = true := by rw [decide_eq_true_eq]; omega
      have hku : k < ns.length := by have := HNL.out; omega
      obtain ⟨ad, had, hc⟩ := (HRN.out _ (HBX.out _ hS.old)).elem hku
      subst had
      have HC : Hid (∀ W, Below g6 w6 W → ∀ j u, (bv (dg ns[k]))[j]? = some u → W.cell? ((ad.add (k * 16)).add j) = some u) := Lib.hid (fun W h => by
        obtain ⟨ad2, had, hc⟩ := (HRN.out _ (HBX.out _ h)).elem hku
        injection had with had
        subst had
        exact hc)
      have HSU := Lib.hid (wantL_succ l ns k hku)
      have HPZ := Lib.hid (HPL.out ns[k] (HLT.out _ (List.getElem_mem hku)))
      have hpz := placed HSO.out ns[k]
      generalize ns[k] = z at *
      clear hc
      rcases hpz with ⟨h1, h2⟩ | ⟨k', hk', h1, h2, h3⟩
      · rw [h2] at HPZ
        have HM2 : Hid (rs.map (·.p) = wantL l (ns.take (k + 1))) := Lib.hid (by rw [HSU.out, h1, HM.out]; simp)
        clear h1 h2
        go_upto_region 11 with fail
        replace hS := hS.below (Below.refl _ _).drew
        have hbr : Below wr.heap.size wr wr.drew := (Below.refl _ _).drew
        refine wp_region_TS (S := DidS g6 w6 A m c vo) 7 (by kernel_rfl) ?_
        refine WpT.take (i := 0) rfl (by kernel_rfl) (fun _ _ _ h => h) (yields_loadS (us := [.slice A m c]) rfl rfl rfl aggSt (by rw [sizeSt]; rfl) (fun W h => blk_cells (HQ2.out W h.old))) (hS) ?_
        try simp only [nrm]
        refine WpT.take (i := 1) rfl (by kernel_rfl) (fun _ _ _ h => h) (.inl ⟨by rfl, fun w hSw => by clear hSw; go_simp; (try go_bits); (try rw [if_pos (by omega)]); (try with_reducible rfl)⟩) (hS) ?_
        try simp only [nrm]
        refine WpT.take (i := 2) rfl (by kernel_rfl) (fun _ _ _ h => h) (yields_load1S rfl rfl rfl (by kernel_rfl) (fun W h => (HQ.out W (HQ3.out W h.old)).2.2.1)) (hS) ?_
        try simp only [nrm]
        refine WpT.take (i := 3) rfl (by kernel_rfl) (fun _ _ _ h => h) (.inl ⟨by rfl, fun w hSw => by clear hSw; go_simp; (try go_bits); (try rw [if_pos (by omega)]); (try with_reducible rfl)⟩) (hS) ?_
        try simp only [nrm]
        refine WpT.take (i := 4) rfl (by kernel_rfl) (fun _ _ _ h => h) (.inl ⟨by rfl, fun w hSw => by clear hSw; go_simp; (try go_bits); (try rw [if_pos (by omega)]); (try with_reducible rfl)⟩) (hS) ?_
        try simp only [nrm]
        refine WpT.take (i := 5) rfl (by kernel_rfl) (fun _ _ _ h => h) (yields_loadS (us := bv (dg z)) rfl rfl rfl aggDg (by rw [sizeDg, bv_dg_len]) (fun W h => HC.out W h.old)) (hS) ?_
        try simp only [nrm]
        refine WpT.one (i := 6) rfl (by kernel_rfl) (fun K hK => ?_)
        go_simp; refine (HPZ.out _ (HBX.out _ hS.old)).mono ?_; rintro e w7 ⟨rfl, hb7⟩; replace hS := hS.below hb7; replace hbr := bstep hbr hb7
        refine hK _ _ (hS) ?_; clear hK K; try simp only [nrm]
        refine WpT.tail (i := 7) rfl (by kernel_rfl) (by kernel_rfl) (fun K hK => ?_)
        go_simp; (try go_bits)
        refine hK _ _ ?_; clear hK K; try simp only [nrm]
        refine WpT.done (by kernel_rfl) ?_ _
        skip
        replace hout := hout.below hbr
        replace hsz := Nat.le_trans hsz hbr.size
        clear hbr hb7
        go_wp2_with fail
        exact ⟨⟨k + 1, vo, rs, by go_num, by omega, hS, hout, HM2, Lib.hid (by omega), hsz⟩, by simp [intOf]; omega⟩
      · rw [h2] at HPZ
        have d0 : decide ((0 : Int) ≤ (k' : Int)) = true := by rw [decide_eq_true_eq]; omega
        have HM2 : Hid ((rs ++ [(⟨textP l[k'].tx, none, 0, 0⟩ : PaR)]).map (·.p) = wantL l (ns.take (k + 1))) := Lib.hid (by rw [List.map_append, HSU.out, h1, HM.out, if_pos rfl, h3]; rfl)
        have hkm : k' < m := by have := HLN.out; omega
        obtain ⟨ad2, had2, hel⟩ := (HST.out _ (HBX.out _ hS.old)).rd.elem hk'
        have HTX : Hid (∀ W, Below g6 w6 W → W.cell? ((ad2.add (k' * 17)).add 16) = some (.string l[k'].tx)) := Lib.hid (fun W h => by
          obtain ⟨ad3, had, hc⟩ := (HST.out _ (HBX.out _ h)).rd.elem hk'
          rw [had2] at had
          injection had with had
          subst had
          exact it_text hc)
        generalize l[k'].tx = T at *
        have HAD2 := Lib.hid had2
        clear h1 h2 h3 hel had2
        go_upto_region 11 with fail
        replace hS := hS.below (Below.refl _ _).drew
        have hbr : Below wr.heap.size wr wr.drew := (Below.refl _ _).drew
        refine wp_region_TS (S := DidS g6 w6 A m c vo) 7 (by kernel_rfl) ?_
        refine WpT.take (i := 0) rfl (by kernel_rfl) (fun _ _ _ h => h) (yields_loadS (us := [.slice A m c]) rfl rfl rfl aggSt (by rw [sizeSt]; rfl) (fun W h => blk_cells (HQ2.out W h.old))) (hS) ?_
        try simp only [nrm]
        refine WpT.take (i := 1) rfl (by kernel_rfl) (fun _ _ _ h => h) (.inl ⟨by rfl, fun w hSw => by clear hSw; go_simp; (try go_bits); (try rw [if_pos (by omega)]); (try with_reducible rfl)⟩) (hS) ?_
        try simp only [nrm]
        refine WpT.take (i := 2) rfl (by kernel_rfl) (fun _ _ _ h => h) (yields_load1S rfl rfl rfl (by kernel_rfl) (fun W h => (HQ.out W (HQ3.out W h.old)).2.2.1)) (hS) ?_
        try simp only [nrm]
        refine WpT.take (i := 3) rfl (by kernel_rfl) (fun _ _ _ h => h) (.inl ⟨by rfl, fun w hSw => by clear hSw; go_simp; (try go_bits); (try rw [if_pos (by omega)]); (try with_reducible rfl)⟩) (hS) ?_
        try simp only [nrm]
        refine WpT.take (i := 4) rfl (by kernel_rfl) (fun _ _ _ h => h) (.inl ⟨by rfl, fun w hSw => by clear hSw; go_simp; (try go_bits); (try rw [if_pos (by omega)]); (try with_reducible rfl)⟩) (hS) ?_
        try simp only [nrm]
        refine WpT.take (i := 5) rfl (by kernel_rfl) (fun _ _ _ h => h) (yields_loadS (us := bv (dg z)) rfl rfl rfl aggDg (by rw [sizeDg, bv_dg_len]) (fun W h => HC.out W h.old)) (hS) ?_
        try simp only [nrm]
        refine WpT.one (i := 6) rfl (by kernel_rfl) (fun K hK => ?_)
        go_simp; refine (HPZ.out _ (HBX.out _ hS.old)).mono ?_; rintro e w7 ⟨rfl, hb7⟩; replace hS := hS.below hb7; replace hbr := bstep hbr hb7
        refine hK _ _ (hS) ?_; clear hK K; try simp only [nrm]
        refine WpT.tail (i := 7) rfl (by kernel_rfl) (by kernel_rfl) (fun K hK => ?_)
        go_simp; (try go_bits)
        refine hK _ _ ?_; clear hK K; try simp only [nrm]
        refine WpT.done (by kernel_rfl) ?_ _
        skip
        replace hout := hout.below hbr
        replace hsz := Nat.le_trans hsz hbr.size
        clear hbr hb7
        go_wp2_with fail
        have had2 := HAD2.out
        clear HAD2
        subst had2
        go_upto_region 13 with fail
        replace hS := hS.below (Below.refl _ _).drew
        replace hout := hout.below (Below.refl _ _).drew
        refine wp_region_TS (S := DidS g6 w6 (some ad2) m c vo) 12 (by kernel_rfl) ?_
        refine WpT.take (i := 0) rfl (by kernel_rfl) (fun _ _ _ h => h) (.inl ⟨by rfl, fun w hSw => by clear hSw; go_simp; (try go_bits); (try rw [if_pos (by omega)]); (try with_reducible rfl)⟩) (hS) ?_
        try simp only [nrm]
        refine WpT.take (i := 1) rfl (by kernel_rfl) (fun _ _ _ h => h) (yields_load1S rfl rfl rfl (by kernel_rfl) (fun W h => h.outC)) (hS) ?_
        try simp only [nrm]
        refine WpT.take (i := 2) rfl (by kernel_rfl) (fun _ _ _ h => h) (.inl ⟨by rfl, fun w hSw => by clear hSw; go_simp; (try go_bits); (try rw [if_pos (by omega)]); (try with_reducible rfl)⟩) (hS) ?_
        try simp only [nrm]
        refine WpT.take (i := 3) rfl (by kernel_rfl) (fun _ _ _ h => h) (yields_load1S rfl rfl rfl (by kernel_rfl) (fun W h => (HQ2.out W h.old).cell 0)) (hS) ?_
        try simp only [nrm]
        refine WpT.take (i := 4) rfl (by kernel_rfl) (fun _ _ _ h => h) (.inl ⟨by rfl, fun w hSw => by clear hSw; go_simp; (try go_bits); (try rw [if_pos (by omega)]); (try with_reducible rfl)⟩) (hS) ?_
        try simp only [nrm]
        refine WpT.take (i := 5) rfl (by kernel_rfl) (fun _ _ _ h => h) (.inl ⟨by rfl, fun w hSw => by clear hSw; go_simp; (try go_bits); (try rw [if_pos (by omega)]); (try with_reducible rfl)⟩) (hS) ?_
        try simp only [nrm]
        refine WpT.take (i := 6) rfl (by kernel_rfl) (fun _ _ _ h => h) (.inl ⟨by rfl, fun w hSw => by clear hSw; go_simp; (try go_bits); (try rw [if_pos (by omega)]); (try with_reducible rfl)⟩) (hS) ?_
        try simp only [nrm]
        refine WpT.take (i := 7) rfl (by kernel_rfl) (fun _ _ _ h => h) (yields_load1S rfl rfl rfl (by kernel_rfl) (fun W h => HTX.out W h.old)) (hS) ?_
        try simp only [nrm]
        refine WpT.take (i := 8) rfl (by kernel_rfl) (fun _ _ _ h => h) (yields_build2 rfl rfl (by rfl) (by rfl) (build_text T)) (hS) ?_
        try simp only [nrm]
        refine WpT.one (i := 9) rfl (by kernel_rfl) (fun K hK => ?_)
        refine wp_lit1P ⟨textP T, none, 0, 0⟩ rfl (by rfl) ?_; intro w9 g9 hg9 hr9 hb9; clear hg9; replace hS := hS.below hb9; replace hout := hout.below hb9
        refine hK _ _ (hS) ?_; clear hK K; try simp only [nrm]
        refine WpT.one (i := 10) rfl (by kernel_rfl) (fun K hK => ?_)
        refine wp_appO rfl elemPa (by rfl) hout.1 (by rfl) (m := 1) (ys := paRs [⟨textP T, none, 0, 0⟩]) hr9 (one_paRs _) (by omega) (Nat.le_trans hsz hb9.size) ?_; intro v10 w10 own10 hg10 hb10 hv10; have hs10 : w6.heap.size ≤ w10.heap.size := Nat.le_trans hsz (Nat.le_trans hb9.size hg10.size); have hS10 := hS.grown hout.1 (by decide) hg10 HG6W.out hb10; have hout10 := OutP.app (ks := [⟨textP T, none, 0, 0⟩]) hout (fun r hr => by obtain rfl := List.mem_singleton.1 hr; exact OwnDs.nil _ _) own10 hg10; replace hS := hS10
        refine hK _ _ (hS) ?_; clear hK K; try simp only [nrm]
        refine WpT.take (i := 11) rfl (by kernel_rfl) (fun _ _ _ h => h) (.inl ⟨by rfl, fun w hSw => by clear hSw; go_simp; (try go_bits); (try rw [if_pos (by omega)]); (try with_reducible rfl)⟩) (hS) ?_
        try simp only [nrm]
        refine WpT.tail (i := 12) rfl (by kernel_rfl) (by kernel_rfl) (fun K hK => ?_)
        refine wp_set (j := 1) (v := v10) (cs' := didC (some ad2) m c v10 0) rfl (by kernel_rfl) (by rfl) (by rfl) hout10.one hS.blk (by simp) (by simp) ?_; intro w12 ht12 b12
        refine hK _ _ ?_; clear hK K; try simp only [nrm]
        refine WpT.done (by kernel_rfl) ?_ _
        skip
        have hS12 : DidS g6 w6 (some ad2) m c v10 w12 := ⟨hS.old.trans (ht12.below _ (Nat.le_refl _)), b12⟩
        have hout12 := hout10.turnedD hS.blk ht12
        have hsz12 : w6.heap.size ≤ w12.heap.size := by rw [ht12.size]; exact hs10
        clear hS hout hg10 hb10 hS10 hout10 own10 hb9 hr9 ht12 b12
        go_wp2_with fail
        exact ⟨⟨k + 1, v10, rs ++ [⟨textP T, none, 0, 0⟩], by go_num, by omega, hS12, hout12, HM2, Lib.hid (by rw [List.length_append]; simp only [List.length_singleton]; omega), hsz12⟩, by simp [intOf]; omega⟩
    · obtain rfl : nn = k := by omega
      have HM2 : Hid (rs.map (·.p) = wantL l ns) := Lib.hid (by have h := HM.out; rw [List.take_of_length_le (by have := HNL.out; omega)] at h; exact h)
      clear HM
      have HM := HM2
      go_wp2_with first
        | ((with_reducible show wpList _ _ _ (⟨some 62, _, _, _, _, _⟩ :: _) _ _); refine wpList_loadRow rfl rfl rfl hS.blk aggDid (by rw [sizeDid]; rfl) ?_)
        | ((with_reducible show wpList _ _ _ (⟨none, _, _, _, _, _⟩ :: _) _ _); refine wpList_put (vs := didC A m c vo 0) rfl rfl rfl rfl (HQ4.out _ hS.old) rfl (by rw [sizeDid]; rfl) (one_didC _ _ _ _ _ hout.one) ?_; intro w20 ht20 b20)
      have hbE := (HBX.out _ hS.old).trans (ht20.below _ (by omega))
      exact ret_blk rfl rfl rfl b20 aggDid (by rw [sizeDid]; rfl) ⟨A, m, c, vo, rs, rfl, (HST.out _ hbE).rd, (hout.turnedD (HQ4.out _ hS.old) ht20).lower hsw, HM.out, hbE⟩
set_option maxRecDepth 20000 in
set_option maxHeartbeats 8000000 in
theorem rhear_names (l : List It) (A : Option Addr) (m c : Nat) (P : Pa) (An : Option Addr) (nn cn : Nat) (w : World) (hs : StAt w (fun _ => False) A m c l) (hl : l.length ≤ 900) (hp : PaAt w (fun _ => False) ⟨P, An, nn, cn⟩) (hg : RCon w) (hck : checkP P = 0) (hk : P.kind = 2) :
    Calls Tryd.prog 34 #[stV A m c, paV P An nn cn] w (RHearIs (l, namesL l P.names ⟨P.v, P.len.toNat⟩, 0) w) := by
  obtain ⟨wa, hwa, hb0, q2, q3, q4⟩ : ∃ wa : World, wa = ((w.alloc (.cells (stC A m c) 24)).alloc (.cells (paC P An nn cn) 47)).alloc (.cells (didC none 0 0 (.slice none 0 0) 0) 41) ∧ Below w.heap.size w wa ∧ Blk wa w.heap.size 24 (stC A m c) ∧ Blk wa (w.heap.size + 1) 47 (paC P An nn cn) ∧ Blk wa (w.heap.size + 1 + 1) 41 (didC none 0 0 (.slice none 0 0) 0) :=
    ⟨_, rfl, (((Below.refl w.heap.size w).alloc (Nat.le_refl _) _).alloc (by simp) _).alloc (by simp; omega) _, ((Blk.new _ _ _).alloc _).alloc _, (Blk.new2 _ _ _ _).alloc _, by simpa [Blk] using Blk.new ((w.alloc (.cells (stC A m c) 24)).alloc (.cells (paC P An nn cn) 47)) 41 (didC none 0 0 (.slice none 0 0) 0)⟩
  have HWA := Lib.hid hwa
  clear hwa
  have HST := Lib.hid (fun W (h : Below w.heap.size w W) => hs.below h)
  have HAW := Lib.hid hs.un
  have HPA := Lib.hid (fun W (h : Below w.heap.size w W) => hp.below h)
  have HG := Lib.hid (fun W (h : Below w.heap.size w W) => hg.below h)
  have HLL := Lib.hid hl
  have HLN := Lib.hid hs.rd.len
  have HNN : Hid (P.names.length = nn) := Lib.hid hp.rd.len
  have HSO := Lib.hid hs.vl.so
  have HOK : Hid (PaOk P) := Lib.hid hp.ok
  obtain ⟨V, hV⟩ : ∃ V, paC P An nn cn = V := ⟨_, rfl⟩
  have hPs : V.size = 37 := by rw [← hV]; exact paC_size P An nn cn
  have HQ : Hid (∀ W, Blk W (w.heap.size + 1) 47 V → W.cell? ⟨w.heap.size + 1, 0, none⟩ = some (.int .i64 P.kind) ∧ W.cell? ⟨w.heap.size + 1, 34, none⟩ = some (.int .i64 P.count) ∧ W.cell? ⟨w.heap.size + 1, 35, none⟩ = some (.slice An nn cn) ∧ W.cell? ⟨w.heap.size + 1, 36, none⟩ = some (.string P.text) ∧ (∀ j u, (pxL P.v P.len)[j]? = some u → W.cell? ((⟨w.heap.size + 1, 1, none⟩ : Addr).add j) = some u) ∧ (∀ j u, (bv (dg P.sum))[j]? = some u → W.cell? ((⟨w.heap.size + 1, 18, none⟩ : Addr).add j) = some u)) := Lib.hid (fun W h => by
    rw [← hV] at h
    exact ⟨h.paK, h.paN, h.paS, h.paT, h.paP, h.paD⟩)
  have hln := hs.rd.len
  have hnn : nn ≤ 1000 := by have := hp.ok.len; have := HNN.out; simp only at *; omega
  have HCH : Hid (Calls Tryd.prog 36 #[.agg V] wa fun e w' => e = .returned (.int .i64 0) ∧ Below wa.heap.size wa w') := Lib.hid (by
    rw [← hV]
    have h := refCheck_any P An nn cn wa HOK.out.v HOK.out.sum (HPA.out _ hb0).rd hnn HOK.out.lt (by have := HOK.out.text; omega)
    rw [hck] at h
    exact h)
  have hkk := hk
  rw [hk] at HQ
  obtain ⟨ns, hns⟩ : ∃ ns, P.names = ns := ⟨_, rfl⟩
  have HRN : Hid (∀ W, Below w.heap.size w W → RdD W An nn ns) := Lib.hid (fun W h => by rw [← hns]; exact (HPA.out W h).rd)
  have HLT : Hid (∀ z ∈ ns, z < 2 ^ 128) := Lib.hid (by rw [← hns]; exact HOK.out.lt)
  have HNL : Hid (ns.length = nn) := Lib.hid (by rw [← hns]; exact HNN.out)
  have HPL := Lib.hid (fun z (hz : z < 2 ^ 128) W (h : Below w.heap.size w W) => place_any l A m c z W (by omega) (HST.out W h).rd (HST.out W h).vl.wf hz)
  obtain ⟨hrb, hch, -, -⟩ := right_parcel hck
  obtain ⟨hl0, hrt⟩ := (rightB_iff HOK.out.v).1 hrb
  obtain ⟨L, hL⟩ := Int.eq_ofNat_of_zero_le hl0
  obtain ⟨v, hv⟩ : ∃ v, P.v = v := ⟨_, rfl⟩
  have hvlt : v < 2 ^ 128 := by rw [← hv]; exact HOK.out.v
  have hpx : (⟨P.v, P.len.toNat⟩ : Px) = ⟨v, L⟩ := by rw [hL, hv, Int.toNat_natCast]
  rw [hpx] at hrt ⊢
  rw [hL, hv] at HQ
  rw [hns] at hch ⊢
  have hsns := (chk_sorted hch).1
  have HUN := Lib.hid (fun x (hx : x < 2 ^ 128) W => refUnder_any ⟨v, L⟩ x W hrt hx)
  have HHS := Lib.hid (fun x (hx : x < 2 ^ 128) W (h : Below w.heap.size w W) => has_any ns An nn cn x W (by omega) (HRN.out W h) HLT.out hx)
  have HHK := Lib.hid (fun x => has_known hsns x)
  clear hk hkk hns hv hL hrb hch hl0 hpx hsns hvlt hrt
  show Calls _ _ #[_, .agg (paC P An nn cn)] _ _
  rw [hV] at q3 HWA ⊢
  clear hV hs hp hg hl hck
  have hbx := Below.refl wa.heap.size wa
  go_enter Tryd.func34, Tryd.ntmps34
  go_upto_region 1 with (fail)
  change Code.wp _ _ _ _ (((w.alloc (.cells (stC A m c) 24)).alloc (.cells V 47)).alloc (.cells (didC none 0 0 (.slice none 0 0) 0) 41))
  rw [← HWA.out]
  go_wp2_with ((with_reducible show wpList _ _ _ (⟨some 15, _, _, _, _, _⟩ :: _) _ _); refine wpList_loadRow rfl rfl rfl q3 aggPa (by rw [sizePa, hPs]) ?_)
  refine HCH.out.mono ?_
  rintro e w1 ⟨rfl, hb1⟩
  have hw1 := hb0.size
  replace q2 := q2.below hb1
  replace q3 := q3.below hb1
  replace q4 := q4.below hb1
  replace hb0 := bstep hb0 hb1
  clear hb1 HCH HWA hbx
  obtain ⟨ck, -, -, -, -, -⟩ := HQ.out _ q3
  go_upto_region 7 with first
    | ((with_reducible show wpList _ _ _ (⟨some 29, _, _, _, _, _⟩ :: _) _ _); refine wpList_loadRow rfl rfl rfl q2 aggSt (by rw [sizeSt]; rfl) ?_)
    | ((with_reducible show wpList _ _ _ (⟨some 30, _, _, _, _, _⟩ :: _) _ _); refine wpList_build1 rfl rfl rfl (build_did0 A m c) ?_)
    | ((with_reducible show wpList _ _ _ (⟨some 6, _, _, _, _, _⟩ :: _) _ _); refine wpList_new rfl rfl zeroDid ?_; intro w5 g6 hg6 q6 hb5 lt6; have HG6 := Lib.hid hg6; clear hg6)
    | ((with_reducible show wpList _ _ _ (⟨none, _, _, _, _, _⟩ :: _) _ _); refine wpList_put (vs := didC A m c (.slice none 0 0) 0) rfl rfl rfl rfl q6 rfl (by rw [sizeDid]; rfl) (one_didC0 _ _ _ _) ?_; intro w6 ht6 b6)
  have hbn := hb5.trans (ht6.below _ (by have := HG6.out; omega))
  have hgg : w.heap.size + 1 + 1 < g6 := by have := HG6.out; have := q4.lt; omega
  have lt6' : g6 < w6.heap.size := by rw [ht6.size]; exact lt6
  replace q2 := q2.below hbn
  replace q3 := q3.below hbn
  replace q4 := q4.below hbn
  replace hb0 := bstep hb0 hbn
  have HQ2 : Hid (∀ W, Below g6 w6 W → Blk W w.heap.size 24 (stC A m c)) := Lib.hid (fun W h => (h.block _ (by omega)).trans q2)
  have HQ3 : Hid (∀ W, Below g6 w6 W → Blk W (w.heap.size + 1) 47 V) := Lib.hid (fun W h => (h.block _ (by omega)).trans q3)
  have HQ4 : Hid (∀ W, Below g6 w6 W → Blk W (w.heap.size + 1 + 1) 41 (didC none 0 0 (.slice none 0 0) 0)) := Lib.hid (fun W h => (h.block _ hgg).trans q4)
  have HBX : Hid (∀ W, Below g6 w6 W → Below w.heap.size w W) := Lib.hid (fun W h => hb0.trans (h.mono (by omega)))
  have hsw : w.heap.size ≤ w6.heap.size := hb0.size
  have hS0 : DidS g6 w6 A m c (.slice none 0 0) w6 := ⟨Below.refl _ _, b6⟩
  have HG6W : Hid (g6 ≤ w6.heap.size) := Lib.hid (Nat.le_of_lt lt6')
  clear q2 q3 q4 hb0 hbn hb5 ht6 q6 b6 lt6 HG6
  have ck2 := (HQ.out _ (HQ3.out _ hS0.old)).1
  clear ck
  have hown0 : OwnDs w6 w6.heap.size (.slice none 0 0) (lackN l (ns.take 0)) := OwnDs.nil _ _
  go_wp2_with (fail)
  clear ck2
  go_loopw [9, 10] (fun v9 v10 wr => ∃ k : Nat, v10 = .int .i64 k ∧ k ≤ nn ∧ DidS g6 w6 A m c (.slice none 0 0) wr ∧ OwnDs wr w6.heap.size v9 (lackN l (ns.take k)) ∧ w6.heap.size ≤ wr.heap.size) (fun _ v10 _ => nn - (intOf v10).toNat)
  case atStart => exact ⟨0, rfl, Nat.zero_le _, hS0, hown0, Nat.le_refl _⟩
  case round =>
    clear hS0 hown0
    obtain ⟨k, rfl, hk, hS, hown, hsz⟩ := hrel
    have cs := (HQ.out _ (HQ3.out _ hS.old)).2.2.1
    by_cases hlt : k < nn
    · have dlt : decide ((k : Int) < nn) = true := by rw [decide_eq_true_eq]; omega
      have hku : k < ns.length := by have := HNL.out; omega
      obtain ⟨ad, had, hc⟩ := (HRN.out _ (HBX.out _ hS.old)).elem hku
      subst had
      have HC : Hid (∀ W, Below g6 w6 W → ∀ j u, (bv (dg ns[k]))[j]? = some u → W.cell? ((ad.add (k * 16)).add j) = some u) := Lib.hid (fun W h => by
        obtain ⟨ad2, had, hc⟩ := (HRN.out _ (HBX.out _ h)).elem hku
        injection had with had
        subst had
        exact hc)
      have HSU := Lib.hid (lackN_succ l ns k hku)
      have hlk := lackN_len l (ns.take k)
      rw [List.length_take_of_le (by omega)] at hlk
      have HPZ := Lib.hid (HPL.out ns[k] (HLT.out _ (List.getElem_mem hku)))
      have hpz := placed HSO.out ns[k]
      obtain ⟨t2, ht2⟩ : ∃ t2, lackN l (ns.take (k + 1)) = t2 := ⟨_, rfl⟩
      rw [ht2] at HSU
      have HT2 := Lib.hid ht2
      clear ht2
      generalize ns[k] = z at *
      generalize lackN l (ns.take k) = t1 at *
      clear hc
      rcases hpz with ⟨h1, h2⟩ | ⟨k', hk', h1, h2, h3⟩
      · rw [h2] at HPZ
        have HSU2 : Hid (t2 = t1 ++ [z]) := Lib.hid (by rw [HSU.out, h1]; rfl)
        clear h1 h2 HSU
        go_upto_region 20 with fail
        replace hS := hS.below (Below.refl _ _).drew
        have hbr : Below wr.heap.size wr wr.drew := (Below.refl _ _).drew
        refine wp_region_TS (S := DidS g6 w6 A m c (.slice none 0 0)) 8 (by kernel_rfl) ?_
        refine WpT.take (i := 0) rfl (by kernel_rfl) (fun _ _ _ h => h) (yields_loadS (us := [.slice A m c]) rfl rfl rfl aggSt (by rw [sizeSt]; rfl) (fun W h => blk_cells (HQ2.out W h.old))) (hS) ?_
        try simp only [nrm]
        refine WpT.take (i := 1) rfl (by kernel_rfl) (fun _ _ _ h => h) (.inl ⟨by rfl, fun w hSw => by clear hSw; go_simp; (try go_bits); (try rw [if_pos (by omega)]); (try with_reducible rfl)⟩) (hS) ?_
        try simp only [nrm]
        refine WpT.take (i := 2) rfl (by kernel_rfl) (fun _ _ _ h => h) (yields_load1S rfl rfl rfl (by kernel_rfl) (fun W h => (HQ.out W (HQ3.out W h.old)).2.2.1)) (hS) ?_
        try simp only [nrm]
        refine WpT.take (i := 3) rfl (by kernel_rfl) (fun _ _ _ h => h) (.inl ⟨by rfl, fun w hSw => by clear hSw; go_simp; (try go_bits); (try rw [if_pos (by omega)]); (try with_reducible rfl)⟩) (hS) ?_
        try simp only [nrm]
        refine WpT.take (i := 4) rfl (by kernel_rfl) (fun _ _ _ h => h) (.inl ⟨by rfl, fun w hSw => by clear hSw; go_simp; (try go_bits); (try rw [if_pos (by omega)]); (try with_reducible rfl)⟩) (hS) ?_
        try simp only [nrm]
        refine WpT.take (i := 5) rfl (by kernel_rfl) (fun _ _ _ h => h) (yields_loadS (us := bv (dg z)) rfl rfl rfl aggDg (by rw [sizeDg, bv_dg_len]) (fun W h => HC.out W h.old)) (hS) ?_
        try simp only [nrm]
        refine WpT.one (i := 6) rfl (by kernel_rfl) (fun K hK => ?_)
        go_simp; refine (HPZ.out _ (HBX.out _ hS.old)).mono ?_; rintro e w7 ⟨rfl, hb7⟩; replace hS := hS.below hb7; replace hbr := bstep hbr hb7
        refine hK _ _ (hS) ?_; clear hK K; try simp only [nrm]
        refine WpT.take (i := 7) rfl (by kernel_rfl) (fun _ _ _ h => h) (.inl ⟨by rfl, fun w hSw => by clear hSw; go_simp; (try go_bits); (try rw [if_pos (by omega)]); (try with_reducible rfl)⟩) (hS) ?_
        try simp only [nrm]
        refine WpT.done (by kernel_rfl) ?_ _
        skip
        replace hown := hown.below hbr
        replace hsz := Nat.le_trans hsz hbr.size
        clear hbr hb7
        have hc := HC.out _ hS.old
        clear cs
        have cs := (HQ.out _ (HQ3.out _ hS.old)).2.2.1
        have hown2 := hown
        unfold OwnDs at hown2
        go_upto_region 19 with first
          | ((with_reducible show wpList _ _ _ (⟨some 86, _, _, _, _, _⟩ :: _) _ _); refine wpList_loadKW (us := bv (dg z)) (by rfl) rfl rfl aggDg (by rw [sizeDg, bv_dg_len]) hc ?_)
          | ((with_reducible show wpList _ _ _ (⟨some 87, _, _, _, _, _⟩ :: _) _ _); refine wpList_lit1D (n := z) rfl rfl rfl ?_; intro w8 g8 hg8 hr8 hb8; clear hg8)
          | ((with_reducible show wpList _ _ _ (⟨some 88, _, _, _, _, _⟩ :: _) _ _); refine wpList_appO rfl rfl elemDg rfl (ownsRow_below hown2 hb8) rfl (m := 1) hr8 (one_dgsL _) (by omega) (Nat.le_trans hsz hb8.size) ?_; intro v11 w11 own11 hg11 hv11)
        have hfin : OwnDs w11 w6.heap.size v11 t2 := by
          unfold OwnDs
          rw [HSU2.out, dgsL_app, List.length_append]
          exact own11
        have hS11 := (hS.below hb8).grown2 (ownsRow_below hown2 hb8) (by decide) hg11 HG6W.out
        have hsz11 : w6.heap.size ≤ w11.heap.size := Nat.le_trans hsz (Nat.le_trans hb8.size hg11.size)
        clear hown hown2 own11 hg11 hb8 hr8 hc hS
        go_wp2_with fail
        exact ⟨⟨k + 1, by go_num, by omega, hS11, by rw [HT2.out]; exact hfin, hsz11⟩, by simp [intOf]; omega⟩
      · rw [h2] at HPZ
        have dk : decide ((k' : Int) < 0) = false := by rw [decide_eq_false_iff_not]; omega
        have HSU2 : Hid (t2 = t1) := Lib.hid (by rw [HSU.out, h1]; simp)
        clear h1 h2 h3 HSU
        go_upto_region 20 with fail
        replace hS := hS.below (Below.refl _ _).drew
        have hbr : Below wr.heap.size wr wr.drew := (Below.refl _ _).drew
        refine wp_region_TS (S := DidS g6 w6 A m c (.slice none 0 0)) 8 (by kernel_rfl) ?_
        refine WpT.take (i := 0) rfl (by kernel_rfl) (fun _ _ _ h => h) (yields_loadS (us := [.slice A m c]) rfl rfl rfl aggSt (by rw [sizeSt]; rfl) (fun W h => blk_cells (HQ2.out W h.old))) (hS) ?_
        try simp only [nrm]
        refine WpT.take (i := 1) rfl (by kernel_rfl) (fun _ _ _ h => h) (.inl ⟨by rfl, fun w hSw => by clear hSw; go_simp; (try go_bits); (try rw [if_pos (by omega)]); (try with_reducible rfl)⟩) (hS) ?_
        try simp only [nrm]
        refine WpT.take (i := 2) rfl (by kernel_rfl) (fun _ _ _ h => h) (yields_load1S rfl rfl rfl (by kernel_rfl) (fun W h => (HQ.out W (HQ3.out W h.old)).2.2.1)) (hS) ?_
        try simp only [nrm]
        refine WpT.take (i := 3) rfl (by kernel_rfl) (fun _ _ _ h => h) (.inl ⟨by rfl, fun w hSw => by clear hSw; go_simp; (try go_bits); (try rw [if_pos (by omega)]); (try with_reducible rfl)⟩) (hS) ?_
        try simp only [nrm]
        refine WpT.take (i := 4) rfl (by kernel_rfl) (fun _ _ _ h => h) (.inl ⟨by rfl, fun w hSw => by clear hSw; go_simp; (try go_bits); (try rw [if_pos (by omega)]); (try with_reducible rfl)⟩) (hS) ?_
        try simp only [nrm]
        refine WpT.take (i := 5) rfl (by kernel_rfl) (fun _ _ _ h => h) (yields_loadS (us := bv (dg z)) rfl rfl rfl aggDg (by rw [sizeDg, bv_dg_len]) (fun W h => HC.out W h.old)) (hS) ?_
        try simp only [nrm]
        refine WpT.one (i := 6) rfl (by kernel_rfl) (fun K hK => ?_)
        go_simp; refine (HPZ.out _ (HBX.out _ hS.old)).mono ?_; rintro e w7 ⟨rfl, hb7⟩; replace hS := hS.below hb7; replace hbr := bstep hbr hb7
        refine hK _ _ (hS) ?_; clear hK K; try simp only [nrm]
        refine WpT.take (i := 7) rfl (by kernel_rfl) (fun _ _ _ h => h) (.inl ⟨by rfl, fun w hSw => by clear hSw; go_simp; (try go_bits); (try rw [if_pos (by omega)]); (try with_reducible rfl)⟩) (hS) ?_
        try simp only [nrm]
        refine WpT.done (by kernel_rfl) ?_ _
        skip
        replace hown := hown.below hbr
        replace hsz := Nat.le_trans hsz hbr.size
        clear hbr hb7
        go_wp2_with fail
        exact ⟨⟨k + 1, by go_num, by omega, hS, by rw [HT2.out, HSU2.out]; exact hown, hsz⟩, by simp [intOf]; omega⟩
    · obtain rfl : nn = k := by omega
      rw [List.take_of_length_le (by have := HNL.out; omega)] at hown
      have hkl := lackN_len l ns
      rw [HNL.out] at hkl
      obtain ⟨t, ht⟩ : ∃ t, lackN l ns = t := ⟨_, rfl⟩
      rw [ht] at hown hkl
      have HT := Lib.hid ht
      obtain ⟨A9, c9, rfl, -, -, -⟩ := hown.form
      have dlt : decide ((nn : Int) < nn) = false := by rw [decide_eq_false_iff_not]; omega
      clear ht
      go_upto_if 91 with fail
      go_cut [] (fun wx => ∃ (vo : Value) (rs : List PaR), Hid (rs.map (·.p) = (if t = [] then [] else [wantP t])) ∧ DidS g6 w6 A m c vo wx ∧ OutP wx w6.heap.size vo rs ∧ w6.heap.size ≤ wx.heap.size)
      case first =>
        by_cases h0 : t = []
        · have hl0 : ((t.length : Nat) : Int) = 0 := by rw [h0]; rfl
          have HM0 : Hid (([] : List PaR).map (·.p) = (if t = [] then [] else [wantP t])) := Lib.hid (by rw [if_pos h0]; rfl)
          clear h0
          go_wp2_with fail
          go_meet
          exact ⟨_, [], HM0, hS, OutP.nil _ _, hsz⟩
        · have hl0 : 0 < ((t.length : Nat) : Int) := by have := List.length_pos_iff.2 h0; omega
          have HM0 : Hid (([(⟨wantP t, A9, t.length, c9⟩ : PaR)]).map (·.p) = (if t = [] then [] else [wantP t])) := Lib.hid (by rw [if_neg h0]; rfl)
          have HBT := Lib.hid (build_want A9 t t.length c9)
          have c61 := hS.outC
          have hnil := World.ownsRow_nil wr w6.heap.size 47 37
          clear h0
          go_wp2_with first
            | ((with_reducible show wpList _ _ _ (⟨some 95, _, _, _, _, _⟩ :: _) _ _); refine wpList_build2 (vx := .int .i64 3) (vy := .slice A9 t.length c9) rfl rfl rfl rfl HBT.out ?_)
            | ((with_reducible show wpList _ _ _ (⟨some 96, _, _, _, _, _⟩ :: _) _ _); refine wpList_lit1P rfl ⟨wantP t, A9, t.length, c9⟩ rfl rfl ?_; intro w8 g8 hg8 hr8 hb8; clear hg8)
            | ((with_reducible show wpList _ _ _ (⟨some 97, _, _, _, _, _⟩ :: _) _ _); refine wpList_appO rfl rfl elemPa rfl (ownsRow_below hnil hb8) rfl (m := 1) (ys := paRs [⟨wantP t, A9, t.length, c9⟩]) hr8 (one_paRs _) (by omega) (Nat.le_trans hsz hb8.size) ?_; intro v11 w11 own11 hg11 hv11; have hS11 := (hS.below hb8).grown2 (ownsRow_below hnil hb8) (by decide) hg11 HG6W.out; have hout11 := OutP.app (ks := [⟨wantP t, A9, t.length, c9⟩]) (OutP.nil w8 w6.heap.size) (fun r hr => by obtain rfl := List.mem_singleton.1 hr; exact hown.below hb8) own11 hg11)
            | ((with_reducible show wpList _ _ _ (⟨none, _, _, _, _, _⟩ :: _) _ _); refine wpList_set (j := 1) (v := v11) (cs' := didC A m c v11 0) rfl rfl (by kernel_rfl) rfl rfl hout11.one hS11.blk (by simp) (by simp) ?_; intro w12 ht12 b12)
          go_meet
          exact ⟨v11, _, HM0, ⟨hS11.old.trans (ht12.below _ (Nat.le_refl _)), b12⟩, hout11.turnedD hS11.blk ht12, by rw [ht12.size]; exact Nat.le_trans hsz (Nat.le_trans hb8.size hg11.size)⟩
      case rest =>
        obtain ⟨vo, rs, HM, hS2, hout, hsz2⟩ := hcut
        have HRL : Hid (rs.length ≤ 1) := Lib.hid (by
          have := congrArg List.length HM.out
          rw [List.length_map] at this
          rw [this]
          split <;> simp)
        clear hS hown hsz cs
        obtain ⟨R0, hR0⟩ : ∃ R, (if t = [] then [] else [wantP t]) = R := ⟨_, rfl⟩
        rw [hR0] at HM
        have HR0 : Hid (∀ X, R0 ++ restL X ns = (if lackN l ns = [] then [] else [wantP (lackN l ns)]) ++ restL X ns) := Lib.hid (fun X => by rw [HT.out, hR0])
        clear hR0
        have HM0 : Hid (rs.map (·.p) = R0 ++ restL (undL (l.take 0) ⟨v, L⟩) ns) := Lib.hid (by rw [HM.out]; simp [undL, restL])
        clear HM
        have c20 := (HQ2.out _ hS2.old).cell 0
        simp only [List.getElem?_toArray, List.getElem?_cons_zero] at c20
        go_wp2_with fail
        clear c20
        go_loopw [11] (fun v11 wr => ∃ (k : Nat) (vo : Value) (rs : List PaR), v11 = .int .i64 k ∧ k ≤ m ∧ DidS g6 w6 A m c vo wr ∧ OutP wr w6.heap.size vo rs ∧ Hid (rs.map (·.p) = R0 ++ restL (undL (l.take k) ⟨v, L⟩) ns) ∧ Hid (rs.length ≤ 1 + k) ∧ w6.heap.size ≤ wr.heap.size) (fun v11 _ => m - (intOf v11).toNat)
        case atStart => exact ⟨0, vo, rs, rfl, Nat.zero_le _, hS2, hout, HM0, HRL, hsz2⟩
        case round =>
          clear hS2 hout HM0 HRL hsz2
          obtain ⟨k, vo, rs, rfl, hk, hS, hout, HM, HRL, hsz⟩ := hrel
          have hrl := HRL.out
          have hlm := HLN.out
          have hlm9 := HLL.out
          by_cases hkm : k < m
          · have dkm : decide ((k : Int) < m) = true := by rw [decide_eq_true_eq]; omega
            have hkl : k < l.length := by omega
            have HSU := Lib.hid (rest_succ l ⟨v, L⟩ ns k hkl)
            obtain ⟨ad, had, hel⟩ := (HST.out _ (HBX.out _ hS.old)).rd.elem hkl
            have hxl := (HST.out _ (HBX.out _ hS.old)).vl.lt _ (List.mem_map_of_mem (List.getElem_mem hkl))
            have HC : Hid (∀ W, Below g6 w6 W → ∀ j u, (itL l[k])[j]? = some u → W.cell? ((ad.add (k * 17)).add j) = some u) := Lib.hid (fun W h => by
              obtain ⟨ad2, had2, hc⟩ := (HST.out _ (HBX.out _ h)).rd.elem hkl
              rw [had] at had2
              injection had2 with had2
              subst had2
              exact hc)
            subst had
            have HUZ := Lib.hid (HUN.out l[k].nm hxl)
            have HHZ := Lib.hid (HHS.out l[k].nm hxl)
            rw [HHK.out] at HHZ
            have c20 := (HQ2.out _ hS.old).cell 0
            simp only [List.getElem?_toArray, List.getElem?_cons_zero] at c20
            clear hel hxl
            have HTX : Hid (∀ W, Below g6 w6 W → W.cell? ((ad.add (k * 17)).add 16) = some (.string l[k].tx)) := Lib.hid (fun W h => it_text (HC.out W h))
            have HNX : Hid (∀ W, Below g6 w6 W → ∀ j u, (bv (dg l[k].nm))[j]? = some u → W.cell? ((ad.add (k * 17)).add j) = some u) := Lib.hid (fun W h => it_name (HC.out W h))
            clear HC
            generalize l[k].nm = z at *
            generalize l[k].tx = T at *
            generalize under ⟨v, L⟩ z = U at *
            generalize knownN z ns = K at *
            go_upto_region 27 with fail
            clear c20
            replace hS := hS.below (Below.refl _ _).drew
            replace hout := hout.below (Below.refl _ _).drew
            refine wp_region_TS (S := DidS g6 w6 (some ad) m c vo) 9 (by kernel_rfl) ?_
            refine WpT.take (i := 0) rfl (by kernel_rfl) (fun _ _ _ h => h) (.inl ⟨by rfl, fun w hSw => by clear hSw; go_simp; (try go_bits); (try rw [if_pos (by omega)]); (try with_reducible rfl)⟩) (hS) ?_
            try simp only [nrm]
            refine WpT.take (i := 1) rfl (by kernel_rfl) (fun _ _ _ h => h) (yields_loadS (us := pxL v L) rfl rfl rfl aggPx (by rw [sizePx, pxL_len]) (fun W h => (HQ.out W (HQ3.out W h.old)).2.2.2.2.1)) (hS) ?_
            try simp only [nrm]
            refine WpT.take (i := 2) rfl (by kernel_rfl) (fun _ _ _ h => h) (.inl ⟨by rfl, fun w hSw => by clear hSw; go_simp; (try go_bits); (try rw [if_pos (by omega)]); (try with_reducible rfl)⟩) (hS) ?_
            try simp only [nrm]
            refine WpT.take (i := 3) rfl (by kernel_rfl) (fun _ _ _ h => h) (yields_load1S rfl rfl rfl (by kernel_rfl) (fun W h => (HQ2.out W h.old).cell 0)) (hS) ?_
            try simp only [nrm]
            refine WpT.take (i := 4) rfl (by kernel_rfl) (fun _ _ _ h => h) (.inl ⟨by rfl, fun w hSw => by clear hSw; go_simp; (try go_bits); (try rw [if_pos (by omega)]); (try with_reducible rfl)⟩) (hS) ?_
            try simp only [nrm]
            refine WpT.take (i := 5) rfl (by kernel_rfl) (fun _ _ _ h => h) (.inl ⟨by rfl, fun w hSw => by clear hSw; go_simp; (try go_bits); (try rw [if_pos (by omega)]); (try with_reducible rfl)⟩) (hS) ?_
            try simp only [nrm]
            refine WpT.take (i := 6) rfl (by kernel_rfl) (fun _ _ _ h => h) (.inl ⟨by rfl, fun w hSw => by clear hSw; go_simp; (try go_bits); (try rw [if_pos (by omega)]); (try with_reducible rfl)⟩) (hS) ?_
            try simp only [nrm]
            refine WpT.take (i := 7) rfl (by kernel_rfl) (fun _ _ _ h => h) (yields_loadS (us := bv (dg z)) rfl rfl rfl aggDg (by rw [sizeDg, bv_dg_len]) (fun W h => HNX.out W h.old)) (hS) ?_
            try simp only [nrm]
            refine WpT.one (i := 8) rfl (by kernel_rfl) (fun K hK => ?_)
            go_simp; refine (HUZ.out _).mono ?_; rintro e w7 ⟨rfl, hb7⟩; replace hS := hS.below hb7; replace hout := hout.below hb7
            refine hK _ _ (hS) ?_; clear hK K; try simp only [nrm]
            refine WpT.tail (i := 9) rfl (by kernel_rfl) (by kernel_rfl) (fun K hK => ?_)
            go_simp; (try go_bits)
            refine hK _ _ ?_; clear hK K; try simp only [nrm]
            refine WpT.done (by kernel_rfl) ?_ _
            skip
            replace hsz := Nat.le_trans hsz hb7.size
            clear hb7
            go_upto_region 28 with fail
            replace hS := hS.below (Below.refl _ _).drew
            replace hout := hout.below (Below.refl _ _).drew
            refine wp_region_TS (S := DidS g6 w6 (some ad) m c vo) 9 (by kernel_rfl) ?_
            refine WpT.take (i := 0) rfl (by kernel_rfl) (fun _ _ _ h => h) (.inl ⟨by rfl, fun w hSw => by clear hSw; go_simp; (try go_bits); (try rw [if_pos (by omega)]); (try with_reducible rfl)⟩) (hS) ?_
            try simp only [nrm]
            refine WpT.take (i := 1) rfl (by kernel_rfl) (fun _ _ _ h => h) (yields_load1S rfl rfl rfl (by kernel_rfl) (fun W h => (HQ.out W (HQ3.out W h.old)).2.2.1)) (hS) ?_
            try simp only [nrm]
            refine WpT.take (i := 2) rfl (by kernel_rfl) (fun _ _ _ h => h) (.inl ⟨by rfl, fun w hSw => by clear hSw; go_simp; (try go_bits); (try rw [if_pos (by omega)]); (try with_reducible rfl)⟩) (hS) ?_
            try simp only [nrm]
            refine WpT.take (i := 3) rfl (by kernel_rfl) (fun _ _ _ h => h) (yields_load1S rfl rfl rfl (by kernel_rfl) (fun W h => (HQ2.out W h.old).cell 0)) (hS) ?_
            try simp only [nrm]
            refine WpT.take (i := 4) rfl (by kernel_rfl) (fun _ _ _ h => h) (.inl ⟨by rfl, fun w hSw => by clear hSw; go_simp; (try go_bits); (try rw [if_pos (by omega)]); (try with_reducible rfl)⟩) (hS) ?_
            try simp only [nrm]
            refine WpT.take (i := 5) rfl (by kernel_rfl) (fun _ _ _ h => h) (.inl ⟨by rfl, fun w hSw => by clear hSw; go_simp; (try go_bits); (try rw [if_pos (by omega)]); (try with_reducible rfl)⟩) (hS) ?_
            try simp only [nrm]
            refine WpT.take (i := 6) rfl (by kernel_rfl) (fun _ _ _ h => h) (.inl ⟨by rfl, fun w hSw => by clear hSw; go_simp; (try go_bits); (try rw [if_pos (by omega)]); (try with_reducible rfl)⟩) (hS) ?_
            try simp only [nrm]
            refine WpT.take (i := 7) rfl (by kernel_rfl) (fun _ _ _ h => h) (yields_loadS (us := bv (dg z)) rfl rfl rfl aggDg (by rw [sizeDg, bv_dg_len]) (fun W h => HNX.out W h.old)) (hS) ?_
            try simp only [nrm]
            refine WpT.one (i := 8) rfl (by kernel_rfl) (fun K hK => ?_)
            go_simp; refine (HHZ.out _ (HBX.out _ hS.old)).mono ?_; rintro e w8 ⟨rfl, hb8⟩; replace hS := hS.below hb8; replace hout := hout.below hb8
            refine hK _ _ (hS) ?_; clear hK K; try simp only [nrm]
            refine WpT.tail (i := 9) rfl (by kernel_rfl) (by kernel_rfl) (fun K hK => ?_)
            go_simp; (try go_bits)
            refine hK _ _ ?_; clear hK K; try simp only [nrm]
            refine WpT.done (by kernel_rfl) ?_ _
            skip
            replace hsz := Nat.le_trans hsz hb8.size
            clear hb8
            have HUK : Hid ((U && !K) = false → Hid (rs.map (·.p) = R0 ++ restL (undL (l.take (k + 1)) ⟨v, L⟩) ns)) := Lib.hid (fun h => Lib.hid (by rw [HSU.out, h, HM.out]; simp))
            cases U
            · have HM2 := HUK.out rfl
              go_wp2_with fail
              exact ⟨⟨k + 1, vo, rs, by go_num, by omega, hS, hout, HM2, Lib.hid (by omega), hsz⟩, by simp [intOf]; omega⟩
            · cases K
              rotate_left
              · have HM2 := HUK.out rfl
                go_wp2_with fail
                exact ⟨⟨k + 1, vo, rs, by go_num, by omega, hS, hout, HM2, Lib.hid (by omega), hsz⟩, by simp [intOf]; omega⟩
              have HM2 : Hid ((rs ++ [(⟨textP T, none, 0, 0⟩ : PaR)]).map (·.p) = R0 ++ restL (undL (l.take (k + 1)) ⟨v, L⟩) ns) := Lib.hid (by rw [List.map_append, HSU.out, HM.out, List.append_assoc]; simp)
              clear HUK
              go_upto_region 30 with fail
              replace hS := hS.below (Below.refl _ _).drew
              replace hout := hout.below (Below.refl _ _).drew
              refine wp_region_TS (S := DidS g6 w6 (some ad) m c vo) 12 (by kernel_rfl) ?_
              refine WpT.take (i := 0) rfl (by kernel_rfl) (fun _ _ _ h => h) (.inl ⟨by rfl, fun w hSw => by clear hSw; go_simp; (try go_bits); (try rw [if_pos (by omega)]); (try with_reducible rfl)⟩) (hS) ?_
              try simp only [nrm]
              refine WpT.take (i := 1) rfl (by kernel_rfl) (fun _ _ _ h => h) (yields_load1S rfl rfl rfl (by kernel_rfl) (fun W h => h.outC)) (hS) ?_
              try simp only [nrm]
              refine WpT.take (i := 2) rfl (by kernel_rfl) (fun _ _ _ h => h) (.inl ⟨by rfl, fun w hSw => by clear hSw; go_simp; (try go_bits); (try rw [if_pos (by omega)]); (try with_reducible rfl)⟩) (hS) ?_
              try simp only [nrm]
              refine WpT.take (i := 3) rfl (by kernel_rfl) (fun _ _ _ h => h) (yields_load1S rfl rfl rfl (by kernel_rfl) (fun W h => (HQ2.out W h.old).cell 0)) (hS) ?_
              try simp only [nrm]
              refine WpT.take (i := 4) rfl (by kernel_rfl) (fun _ _ _ h => h) (.inl ⟨by rfl, fun w hSw => by clear hSw; go_simp; (try go_bits); (try rw [if_pos (by omega)]); (try with_reducible rfl)⟩) (hS) ?_
              try simp only [nrm]
              refine WpT.take (i := 5) rfl (by kernel_rfl) (fun _ _ _ h => h) (.inl ⟨by rfl, fun w hSw => by clear hSw; go_simp; (try go_bits); (try rw [if_pos (by omega)]); (try with_reducible rfl)⟩) (hS) ?_
              try simp only [nrm]
              refine WpT.take (i := 6) rfl (by kernel_rfl) (fun _ _ _ h => h) (.inl ⟨by rfl, fun w hSw => by clear hSw; go_simp; (try go_bits); (try rw [if_pos (by omega)]); (try with_reducible rfl)⟩) (hS) ?_
              try simp only [nrm]
              refine WpT.take (i := 7) rfl (by kernel_rfl) (fun _ _ _ h => h) (yields_load1S rfl rfl rfl (by kernel_rfl) (fun W h => HTX.out W h.old)) (hS) ?_
              try simp only [nrm]
              refine WpT.take (i := 8) rfl (by kernel_rfl) (fun _ _ _ h => h) (yields_build2 rfl rfl (by rfl) (by rfl) (build_text T)) (hS) ?_
              try simp only [nrm]
              refine WpT.one (i := 9) rfl (by kernel_rfl) (fun K hK => ?_)
              refine wp_lit1P ⟨textP T, none, 0, 0⟩ rfl (by rfl) ?_; intro w9 g9 hg9 hr9 hb9; clear hg9; replace hS := hS.below hb9; replace hout := hout.below hb9
              refine hK _ _ (hS) ?_; clear hK K; try simp only [nrm]
              refine WpT.one (i := 10) rfl (by kernel_rfl) (fun K hK => ?_)
              refine wp_appO rfl elemPa (by rfl) hout.1 (by rfl) (m := 1) (ys := paRs [⟨textP T, none, 0, 0⟩]) hr9 (one_paRs _) (by omega) (Nat.le_trans hsz hb9.size) ?_; intro v10 w10 own10 hg10 hb10 hv10; have hs10 : w6.heap.size ≤ w10.heap.size := Nat.le_trans hsz (Nat.le_trans hb9.size hg10.size); have hS10 := hS.grown hout.1 (by decide) hg10 HG6W.out hb10; have hout10 := OutP.app (ks := [⟨textP T, none, 0, 0⟩]) hout (fun r hr => by obtain rfl := List.mem_singleton.1 hr; exact OwnDs.nil _ _) own10 hg10; replace hS := hS10
              refine hK _ _ (hS) ?_; clear hK K; try simp only [nrm]
              refine WpT.take (i := 11) rfl (by kernel_rfl) (fun _ _ _ h => h) (.inl ⟨by rfl, fun w hSw => by clear hSw; go_simp; (try go_bits); (try rw [if_pos (by omega)]); (try with_reducible rfl)⟩) (hS) ?_
              try simp only [nrm]
              refine WpT.tail (i := 12) rfl (by kernel_rfl) (by kernel_rfl) (fun K hK => ?_)
              refine wp_set (j := 1) (v := v10) (cs' := didC (some ad) m c v10 0) rfl (by kernel_rfl) (by rfl) (by rfl) hout10.one hS.blk (by simp) (by simp) ?_; intro w12 ht12 b12
              refine hK _ _ ?_; clear hK K; try simp only [nrm]
              refine WpT.done (by kernel_rfl) ?_ _
              skip
              have hS12 : DidS g6 w6 (some ad) m c v10 w12 := ⟨hS.old.trans (ht12.below _ (Nat.le_refl _)), b12⟩
              have hout12 := hout10.turnedD hS.blk ht12
              have hsz12 : w6.heap.size ≤ w12.heap.size := by rw [ht12.size]; exact hs10
              clear hS hout hg10 hb10 hS10 hout10 own10 hb9 hr9 ht12 b12
              go_wp2_with fail
              exact ⟨⟨k + 1, v10, rs ++ [⟨textP T, none, 0, 0⟩], by go_num, by omega, hS12, hout12, HM2, Lib.hid (by rw [List.length_append]; simp only [List.length_singleton]; omega), hsz12⟩, by simp [intOf]; omega⟩
          · obtain rfl : m = k := by omega
            have dkm : decide ((m : Int) < m) = false := by rw [decide_eq_false_iff_not]; omega
            have c20 := (HQ2.out _ hS.old).cell 0
            simp only [List.getElem?_toArray, List.getElem?_cons_zero] at c20
            have HM2 : Hid (rs.map (·.p) = namesL l ns ⟨v, L⟩) := Lib.hid (by have h := HM.out; rw [List.take_of_length_le (by omega), HR0.out] at h; exact h)
            clear HM
            have HM := HM2
            go_wp2_with first
              | ((with_reducible show wpList _ _ _ (⟨some 141, _, _, _, _, _⟩ :: _) _ _); refine wpList_loadRow rfl rfl rfl hS.blk aggDid (by rw [sizeDid]; rfl) ?_)
              | ((with_reducible show wpList _ _ _ (⟨none, _, _, _, _, _⟩ :: _) _ _); refine wpList_put (vs := didC A m c vo 0) rfl rfl rfl rfl (HQ4.out _ hS.old) rfl (by rw [sizeDid]; rfl) (one_didC _ _ _ _ _ hout.one) ?_; intro w20 ht20 b20)
            have hbE := (HBX.out _ hS.old).trans (ht20.below _ (by omega))
            exact ret_blk rfl rfl rfl b20 aggDid (by rw [sizeDid]; rfl) ⟨A, m, c, vo, rs, rfl, (HST.out _ hbE).rd, (hout.turnedD (HQ4.out _ hS.old) ht20).lower hsw, HM.out, hbE⟩
set_option maxRecDepth 20000 in
set_option maxHeartbeats 8000000 in
theorem rhear_sum (l : List It) (A : Option Addr) (m c : Nat) (P : Pa) (An : Option Addr) (nn cn : Nat) (w : World) (hs : StAt w (fun _ => False) A m c l) (hl : l.length ≤ 900) (hp : PaAt w (fun _ => False) ⟨P, An, nn, cn⟩) (hg : RCon w) (hck : checkP P = 0) (hk : P.kind = 1) :
    Calls Tryd.prog 34 #[stV A m c, paV P An nn cn] w (RHearIs (l, sumsL l ⟨P.v, P.len.toNat⟩ P.sum P.count, 0) w) := by
  obtain ⟨wa, hwa, hb0, q2, q3, q4⟩ : ∃ wa : World, wa = ((w.alloc (.cells (stC A m c) 24)).alloc (.cells (paC P An nn cn) 47)).alloc (.cells (didC none 0 0 (.slice none 0 0) 0) 41) ∧ Below w.heap.size w wa ∧ Blk wa w.heap.size 24 (stC A m c) ∧ Blk wa (w.heap.size + 1) 47 (paC P An nn cn) ∧ Blk wa (w.heap.size + 1 + 1) 41 (didC none 0 0 (.slice none 0 0) 0) :=
    ⟨_, rfl, (((Below.refl w.heap.size w).alloc (Nat.le_refl _) _).alloc (by simp) _).alloc (by simp; omega) _, ((Blk.new _ _ _).alloc _).alloc _, (Blk.new2 _ _ _ _).alloc _, by simpa [Blk] using Blk.new ((w.alloc (.cells (stC A m c) 24)).alloc (.cells (paC P An nn cn) 47)) 41 (didC none 0 0 (.slice none 0 0) 0)⟩
  have HWA := Lib.hid hwa
  clear hwa
  have HST := Lib.hid (fun W (h : Below w.heap.size w W) => hs.below h)
  have HAW := Lib.hid hs.un
  have HPA := Lib.hid (fun W (h : Below w.heap.size w W) => hp.below h)
  have HG := Lib.hid (fun W (h : Below w.heap.size w W) => hg.below h)
  have HLL := Lib.hid hl
  have HLN := Lib.hid hs.rd.len
  have HNN : Hid (P.names.length = nn) := Lib.hid hp.rd.len
  have HSO := Lib.hid hs.vl.so
  have HOK : Hid (PaOk P) := Lib.hid hp.ok
  obtain ⟨V, hV⟩ : ∃ V, paC P An nn cn = V := ⟨_, rfl⟩
  have hPs : V.size = 37 := by rw [← hV]; exact paC_size P An nn cn
  have HQ : Hid (∀ W, Blk W (w.heap.size + 1) 47 V → W.cell? ⟨w.heap.size + 1, 0, none⟩ = some (.int .i64 P.kind) ∧ W.cell? ⟨w.heap.size + 1, 34, none⟩ = some (.int .i64 P.count) ∧ W.cell? ⟨w.heap.size + 1, 35, none⟩ = some (.slice An nn cn) ∧ W.cell? ⟨w.heap.size + 1, 36, none⟩ = some (.string P.text) ∧ (∀ j u, (pxL P.v P.len)[j]? = some u → W.cell? ((⟨w.heap.size + 1, 1, none⟩ : Addr).add j) = some u) ∧ (∀ j u, (bv (dg P.sum))[j]? = some u → W.cell? ((⟨w.heap.size + 1, 18, none⟩ : Addr).add j) = some u)) := Lib.hid (fun W h => by
    rw [← hV] at h
    exact ⟨h.paK, h.paN, h.paS, h.paT, h.paP, h.paD⟩)
  have hln := hs.rd.len
  have hnn : nn ≤ 1000 := by have := hp.ok.len; have := HNN.out; simp only at *; omega
  have HCH : Hid (Calls Tryd.prog 36 #[.agg V] wa fun e w' => e = .returned (.int .i64 0) ∧ Below wa.heap.size wa w') := Lib.hid (by
    rw [← hV]
    have h := refCheck_any P An nn cn wa HOK.out.v HOK.out.sum (HPA.out _ hb0).rd hnn HOK.out.lt (by have := HOK.out.text; omega)
    rw [hck] at h
    exact h)
  have hkk := hk
  rw [hk] at HQ
  obtain ⟨hrb, hch, -, -⟩ := right_parcel hck
  obtain ⟨hl0, hrt⟩ := (rightB_iff HOK.out.v).1 hrb
  obtain ⟨L, hL⟩ := Int.eq_ofNat_of_zero_le hl0
  obtain ⟨v, hv⟩ : ∃ v, P.v = v := ⟨_, rfl⟩
  have hvlt : v < 2 ^ 128 := by rw [← hv]; exact HOK.out.v
  have hpx : (⟨P.v, P.len.toNat⟩ : Px) = ⟨v, L⟩ := by rw [hL, hv, Int.toNat_natCast]
  rw [hpx] at hrt ⊢
  rw [hL, hv] at HQ
  have HSU : Hid (∀ W, Below w.heap.size w W → Calls Tryd.prog 21 #[stV A m c, pxV v L] W fun e w' => e = .returned (paV (sumP l ⟨v, L⟩) none 0 0) ∧ Below W.heap.size W w') := Lib.hid (fun W h => refSum44_any l A m c ⟨v, L⟩ W (by omega) (HST.out W h).rd (HST.out W h).nc (HST.out W h).cm (HST.out W h).vl.wf hrt (HG.out W h))
  have HNA : Hid (∀ W, Below w.heap.size w W → Calls Tryd.prog 27 #[stV A m c, pxV v L] W fun e w' => ∃ u, e = .returned u ∧ OwnDs w' W.heap.size u (namL l ⟨v, L⟩) ∧ Below W.heap.size W w') := Lib.hid (fun W h => refNames_any l A m c ⟨v, L⟩ W (by omega) (HST.out W h).rd (HST.out W h).nc (HST.out W h).cm (HST.out W h).vl.wf hrt)
  have HL127 : Hid (8 < (namL l ⟨v, L⟩).length → L ≤ 127) := Lib.hid (fun h => by
    have h3 : L ≤ 128 := hrt.len
    rcases Nat.lt_or_ge L 128 with h4 | h4
    · omega
    · have := namL_one (l := l) (p := ⟨v, L⟩) HSO.out (show L = 128 by omega)
      omega)
  have HH1 : Hid (L ≤ 127 → ∀ W, Calls Tryd.prog 31 #[pxV v L, .bool false] W fun e w' => e = .returned (pxV v ((L + 1 : Nat) : Int)) ∧ Below W.heap.size W w') := Lib.hid (fun hl W => by have h := refHalf_any v L false W hvlt hl hrt.z (hrt.lt2 hl); simpa only [Bool.false_eq_true, if_false] using h)
  have HH2 : Hid (L ≤ 127 → ∀ W, Calls Tryd.prog 31 #[pxV v L, .bool true] W fun e w' => e = .returned (pxV (v + 2 ^ (127 - L)) ((L + 1 : Nat) : Int)) ∧ Below W.heap.size W w') := Lib.hid (fun hl W => by have h := refHalf_any v L true W hvlt hl hrt.z (hrt.lt2 hl); simpa only [if_true] using h)
  have HS1 : Hid (L ≤ 127 → ∀ W, Below w.heap.size w W → Calls Tryd.prog 21 #[stV A m c, pxV v ((L + 1 : Nat) : Int)] W fun e w' => e = .returned (paV (sumP l (half ⟨v, L⟩ false)) none 0 0) ∧ Below W.heap.size W w') := Lib.hid (fun hl W h => refSum44_any l A m c (half ⟨v, L⟩ false) W (by omega) (HST.out W h).rd (HST.out W h).nc (HST.out W h).cm (HST.out W h).vl.wf (half_right hrt hl false) (HG.out W h))
  have HS2 : Hid (L ≤ 127 → ∀ W, Below w.heap.size w W → Calls Tryd.prog 21 #[stV A m c, pxV (v + 2 ^ (127 - L)) ((L + 1 : Nat) : Int)] W fun e w' => e = .returned (paV (sumP l (half ⟨v, L⟩ true)) none 0 0) ∧ Below W.heap.size W w') := Lib.hid (fun hl W h => refSum44_any l A m c (half ⟨v, L⟩ true) W (by omega) (HST.out W h).rd (HST.out W h).nc (HST.out W h).cm (HST.out W h).vl.wf (half_right hrt hl true) (HG.out W h))
  have hE := HOK.out.sum
  have hD := sumOf_lt (namL l ⟨v, L⟩)
  have HSPs : Hid ((sumP l ⟨v, L⟩).sum = sumOf (namL l ⟨v, L⟩) ∧ (sumP l ⟨v, L⟩).count = (namL l ⟨v, L⟩).length) := Lib.hid ⟨by simp only [sumP], by simp only [sumP]⟩
  have HNQ : Hid (∀ A7 n7 c7 W, (Instr.build 47 #[(0, .int .i64 2), (1, pxV v L), (4, .slice A7 n7 c7)]).run Tryd.prog W = .ok (paV (namesP l ⟨v, L⟩) A7 n7 c7) W) := Lib.hid (fun A7 n7 c7 W => build_nam l ⟨v, L⟩ A7 n7 c7 W)
  have HNM : Hid ((namesP l ⟨v, L⟩).names = namL l ⟨v, L⟩) := Lib.hid (by simp only [namesP])
  have HSN : Hid ((sumP l ⟨v, L⟩).names = [] ∧ (sumP l (half ⟨v, L⟩ false)).names = [] ∧ (sumP l (half ⟨v, L⟩ true)).names = []) := Lib.hid ⟨by simp only [sumP], by simp only [sumP], by simp only [sumP]⟩
  obtain ⟨R, hR⟩ : ∃ R, sumsL l ⟨v, L⟩ P.sum P.count = R := ⟨_, rfl⟩
  rw [hR]
  have HR1 : Hid (sumOf (namL l ⟨v, L⟩) = P.sum → ((namL l ⟨v, L⟩).length : Int) = P.count → R = []) := Lib.hid (fun h1 h2 => by rw [← hR]; unfold sumsL; rw [if_pos (by rw [h1, h2]; simp)])
  have hno : ¬ (sumOf (namL l ⟨v, L⟩) = P.sum ∧ ((namL l ⟨v, L⟩).length : Int) = P.count) → ¬ ((decide (sumOf (namL l ⟨v, L⟩) = P.sum) && ((namL l ⟨v, L⟩).length : Int) == P.count) = true) := fun h h2 => h (by simp only [Bool.and_eq_true, decide_eq_true_eq, beq_iff_eq] at h2; exact h2)
  have HR2 : Hid (¬ (sumOf (namL l ⟨v, L⟩) = P.sum ∧ ((namL l ⟨v, L⟩).length : Int) = P.count) → (namL l ⟨v, L⟩).length ≤ 8 → R = [namesP l ⟨v, L⟩]) := Lib.hid (fun h1 h2 => by rw [← hR]; unfold sumsL; rw [if_neg (hno h1), if_pos h2])
  have HR3 : Hid (¬ (sumOf (namL l ⟨v, L⟩) = P.sum ∧ ((namL l ⟨v, L⟩).length : Int) = P.count) → 8 < (namL l ⟨v, L⟩).length → P.count ≤ 8 → R = [sumP l ⟨v, L⟩]) := Lib.hid (fun h1 h2 h3 => by rw [← hR]; unfold sumsL; rw [if_neg (hno h1), if_neg (by omega), if_pos h3])
  have HR4 : Hid (¬ (sumOf (namL l ⟨v, L⟩) = P.sum ∧ ((namL l ⟨v, L⟩).length : Int) = P.count) → 8 < (namL l ⟨v, L⟩).length → 8 < P.count → R = [sumP l (half ⟨v, L⟩ false), sumP l (half ⟨v, L⟩ true)]) := Lib.hid (fun h1 h2 h3 => by rw [← hR]; unfold sumsL; rw [if_neg (hno h1), if_neg (by omega), if_neg (by omega)])
  have HNLL : Hid ((namL l ⟨v, L⟩).length ≤ 900) := Lib.hid (Nat.le_trans (namL_len (l := l) (p := ⟨v, L⟩)) HLL.out)
  clear hk hkk hv hL hrb hch hl0 hpx hvlt hrt hno hR
  obtain ⟨E, hEE⟩ : ∃ E, P.sum = E := ⟨_, rfl⟩
  obtain ⟨cnt, hcc⟩ : ∃ cnt, P.count = cnt := ⟨_, rfl⟩
  rw [hEE] at HQ HR1 HR2 HR3 HR4 hE
  rw [hcc] at HQ HR1 HR2 HR3 HR4
  clear hEE hcc
  obtain ⟨VP, hVP⟩ : ∃ VP, paC (sumP l ⟨v, L⟩) none 0 0 = VP := ⟨_, rfl⟩
  have hVs : VP.size = 37 := by rw [← hVP]; exact paC_size _ none 0 0
  have hP1 : VP.all (·.oneCell') = true := by
    rw [← hVP, Array.all_eq_true]
    intro i hi
    exact one_paL _ none 0 0 _ (by rw [List.getElem_toArray]; exact List.getElem_mem _)
  have HVP : Hid (∀ W g, Blk W g 47 VP → (∀ j u, (bv (dg (sumOf (namL l ⟨v, L⟩))))[j]? = some u → W.cell? ((⟨g, 18, none⟩ : Addr).add j) = some u) ∧ W.cell? ⟨g, 34, none⟩ = some (.int .i64 (namL l ⟨v, L⟩).length)) := Lib.hid (fun W g h => by
    rw [← hVP] at h
    have h1 := h.paD
    have h2 := h.paN
    rw [HSPs.out.1] at h1
    rw [HSPs.out.2] at h2
    exact ⟨h1, h2⟩)
  have HVPE := Lib.hid hVP
  obtain ⟨Zp, hZP, hPq⟩ : ∃ Z : Array Value, (∀ W, (zeroValue 47).run Tryd.prog W = .ok (.agg Z) W) ∧ Z.size = 37 := ⟨_, zeroPa, paC_size pa0 none 0 0⟩
  clear hVP HSPs
  generalize sumP l ⟨v, L⟩ = SP at *
  generalize sumP l (half ⟨v, L⟩ false) = S1 at *
  generalize sumP l (half ⟨v, L⟩ true) = S2 at *
  generalize namesP l ⟨v, L⟩ = NP at *
  generalize namL l ⟨v, L⟩ = lp at *
  generalize sumOf lp = D at *
  generalize v + 2 ^ (127 - L) = v2 at *
  generalize ((L + 1 : Nat) : Int) = n2 at *
  show Calls _ _ #[_, .agg (paC P An nn cn)] _ _
  rw [hV] at q3 HWA ⊢
  clear hV hs hp hg hl hck
  have hbx := Below.refl wa.heap.size wa
  go_enter Tryd.func34, Tryd.ntmps34
  go_upto_region 1 with (fail)
  change Code.wp _ _ _ _ (((w.alloc (.cells (stC A m c) 24)).alloc (.cells V 47)).alloc (.cells (didC none 0 0 (.slice none 0 0) 0) 41))
  rw [← HWA.out]
  go_wp2_with ((with_reducible show wpList _ _ _ (⟨some 15, _, _, _, _, _⟩ :: _) _ _); refine wpList_loadRow rfl rfl rfl q3 aggPa (by rw [sizePa, hPs]) ?_)
  refine HCH.out.mono ?_
  rintro e w1 ⟨rfl, hb1⟩
  have hw1 := hb0.size
  replace q2 := q2.below hb1
  replace q3 := q3.below hb1
  replace q4 := q4.below hb1
  replace hb0 := bstep hb0 hb1
  clear hb1 HCH HWA hbx
  obtain ⟨ck, -, -, -, -, -⟩ := HQ.out _ q3
  go_upto_region 7 with first
    | ((with_reducible show wpList _ _ _ (⟨some 29, _, _, _, _, _⟩ :: _) _ _); refine wpList_loadRow rfl rfl rfl q2 aggSt (by rw [sizeSt]; rfl) ?_)
    | ((with_reducible show wpList _ _ _ (⟨some 30, _, _, _, _, _⟩ :: _) _ _); refine wpList_build1 rfl rfl rfl (build_did0 A m c) ?_)
    | ((with_reducible show wpList _ _ _ (⟨some 6, _, _, _, _, _⟩ :: _) _ _); refine wpList_new rfl rfl zeroDid ?_; intro w5 g6 hg6 q6 hb5 lt6; have HG6 := Lib.hid hg6; clear hg6)
    | ((with_reducible show wpList _ _ _ (⟨none, _, _, _, _, _⟩ :: _) _ _); refine wpList_put (vs := didC A m c (.slice none 0 0) 0) rfl rfl rfl rfl q6 rfl (by rw [sizeDid]; rfl) (one_didC0 _ _ _ _) ?_; intro w6 ht6 b6)
  have hbn := hb5.trans (ht6.below _ (by have := HG6.out; omega))
  have hgg : w.heap.size + 1 + 1 < g6 := by have := HG6.out; have := q4.lt; omega
  have lt6' : g6 < w6.heap.size := by rw [ht6.size]; exact lt6
  replace q2 := q2.below hbn
  replace q3 := q3.below hbn
  replace q4 := q4.below hbn
  replace hb0 := bstep hb0 hbn
  have HQ2 : Hid (∀ W, Below g6 w6 W → Blk W w.heap.size 24 (stC A m c)) := Lib.hid (fun W h => (h.block _ (by omega)).trans q2)
  have HQ3 : Hid (∀ W, Below g6 w6 W → Blk W (w.heap.size + 1) 47 V) := Lib.hid (fun W h => (h.block _ (by omega)).trans q3)
  have HQ4 : Hid (∀ W, Below g6 w6 W → Blk W (w.heap.size + 1 + 1) 41 (didC none 0 0 (.slice none 0 0) 0)) := Lib.hid (fun W h => (h.block _ hgg).trans q4)
  have HBX : Hid (∀ W, Below g6 w6 W → Below w.heap.size w W) := Lib.hid (fun W h => hb0.trans (h.mono (by omega)))
  have hsw : w.heap.size ≤ w6.heap.size := hb0.size
  have hS0 : DidS g6 w6 A m c (.slice none 0 0) w6 := ⟨Below.refl _ _, b6⟩
  have HG6W : Hid (g6 ≤ w6.heap.size) := Lib.hid (Nat.le_of_lt lt6')
  clear q2 q3 q4 hb0 hbn hb5 ht6 q6 b6 lt6 HG6
  obtain ⟨ck2, cC, -, -, cpx, cE⟩ := HQ.out _ (HQ3.out _ hS0.old)
  clear ck
  go_wp2_with first
    | ((with_reducible show wpList _ _ _ (⟨some 142, _, _, _, _, _⟩ :: _) _ _); refine wpList_loadRow rfl rfl rfl (HQ2.out _ hS0.old) aggSt (by rw [sizeSt]; rfl) ?_)
    | ((with_reducible show wpList _ _ _ (⟨some 144, _, _, _, _, _⟩ :: _) _ _); refine wpList_loadKW (us := pxL v L) (by rfl) rfl rfl aggPx (by rw [sizePx, pxL_len]) cpx ?_)
  refine (HSU.out _ (HBX.out _ hS0.old)).mono ?_
  rintro e w7 ⟨rfl, hb7⟩
  have hS := hS0.below hb7
  have hsz7 := hb7.size
  clear hS0 hb7 ck2 cC cpx cE
  go_upto_region 33 with first
    | ((with_reducible show wpList _ _ _ (⟨some 14, _, _, _, _, _⟩ :: _) _ _); refine wpList_new rfl rfl hZP ?_; intro w8 g14 hg14 q14 hb8 lt14; have HG14 := Lib.hid hg14; clear hg14)
    | ((with_reducible show wpList _ _ _ (⟨none, _, _, _, _, _⟩ :: _) _ _); refine wpList_put (vs := VP) rfl rfl rfl (by show Value.agg (paC SP none 0 0) = _; rw [HVPE.out]) q14 (by rw [hVs, hPq]) (by rw [sizePa, hVs]) hP1 ?_; intro w9 ht9 b14)
  have hb9 := hb8.trans (ht9.below _ (by have := HG14.out; omega))
  replace hS := hS.below hb9
  have hsz : w6.heap.size ≤ w9.heap.size := Nat.le_trans hsz7 hb9.size
  clear hb8 hb9 ht9 q14 hsz7 HG14
  obtain ⟨cD, cN⟩ := HVP.out _ _ b14
  obtain ⟨-, cC, -, -, -, cE⟩ := HQ.out _ (HQ3.out _ hS.old)
  have heq : ∀ W, (binOp .eql 26 (dgV D) (dgV E)).run Tryd.prog W = .ok (.bool (decide (D = E))) W := fun W => eql_Dg hD hE W
  by_cases hall : D = E ∧ (lp.length : Int) = cnt
  · obtain ⟨h1, h2⟩ := hall
    have hR := HR1.out h1 h2
    subst hR
    have HM : Hid (([] : List PaR).map (·.p) = []) := Lib.hid rfl
    rw [decide_eq_true h1] at heq
    have e2 : ((lp.length : Int) == cnt) = true := by rw [h2]; simp
    have hout := OutP.nil w9 w6.heap.size
    clear h1 h2 HR1 HR2 HR3 HR4
    go_wp2_with first
      | ((with_reducible show wpList _ _ _ (⟨some 147, _, _, _, _, _⟩ :: _) _ _); refine wpList_loadKW (us := bv (dg D)) (by rfl) rfl rfl aggDg (by rw [sizeDg, bv_dg_len]) cD ?_)
      | ((with_reducible show wpList _ _ _ (⟨some 149, _, _, _, _, _⟩ :: _) _ _); refine wpList_loadKW (us := bv (dg E)) (by rfl) rfl rfl aggDg (by rw [sizeDg, bv_dg_len]) cE ?_)
      | ((with_reducible show wpList _ _ _ (⟨some 158, _, _, _, _, _⟩ :: _) _ _); refine wpList_loadRow rfl rfl rfl hS.blk aggDid (by rw [sizeDid]; rfl) ?_)
      | ((with_reducible show wpList _ _ _ (⟨none, _, _, _, _, _⟩ :: _) _ _); refine wpList_put (vs := didC A m c (.slice none 0 0) 0) rfl rfl rfl rfl (HQ4.out _ hS.old) rfl (by rw [sizeDid]; rfl) (one_didC _ _ _ _ _ hout.one) ?_; intro w20 ht20 b20)
    have hbE := (HBX.out _ hS.old).trans (ht20.below _ (by omega))
    exact ret_blk rfl rfl rfl b20 aggDid (by rw [sizeDid]; rfl) ⟨A, m, c, _, [], rfl, (HST.out _ hbE).rd, (hout.turnedD (HQ4.out _ hS.old) ht20).lower hsw, HM.out, hbE⟩
  · try simp only [nrm]
    go_cut [157] (fun v157 wx => v157 = .bool false ∧ w9 = wx)
    case first =>
      by_cases h1 : D = E
      · have e2 : ((lp.length : Int) == cnt) = false := by rw [Bool.eq_false_iff]; intro h; exact hall ⟨h1, by simpa using h⟩
        rw [decide_eq_true h1] at heq
        clear h1 hall HR1 HR2 HR3 HR4
        go_wp2_with first
          | ((with_reducible show wpList _ _ _ (⟨some 147, _, _, _, _, _⟩ :: _) _ _); refine wpList_loadKW (us := bv (dg D)) (by rfl) rfl rfl aggDg (by rw [sizeDg, bv_dg_len]) cD ?_)
          | ((with_reducible show wpList _ _ _ (⟨some 149, _, _, _, _, _⟩ :: _) _ _); refine wpList_loadKW (us := bv (dg E)) (by rfl) rfl rfl aggDg (by rw [sizeDg, bv_dg_len]) cE ?_)
        go_meet
        exact ⟨rfl, rfl⟩
      · rw [decide_eq_false h1] at heq
        clear h1 hall HR1 HR2 HR3 HR4
        go_wp2_with first
          | ((with_reducible show wpList _ _ _ (⟨some 147, _, _, _, _, _⟩ :: _) _ _); refine wpList_loadKW (us := bv (dg D)) (by rfl) rfl rfl aggDg (by rw [sizeDg, bv_dg_len]) cD ?_)
          | ((with_reducible show wpList _ _ _ (⟨some 149, _, _, _, _, _⟩ :: _) _ _); refine wpList_loadKW (us := bv (dg E)) (by rfl) rfl rfl aggDg (by rw [sizeDg, bv_dg_len]) cE ?_)
        go_meet
        exact ⟨rfl, rfl⟩
    case rest =>
      obtain ⟨rfl, rfl⟩ := hcut
      have hlp := HNLL.out
      clear cD cE heq
      have hout := OutP.nil w9 w6.heap.size
      by_cases hN8 : lp.length ≤ 8
      · have dN : decide ((lp.length : Int) ≤ 8) = true := by rw [decide_eq_true_eq]; omega
        have hR := HR2.out hall hN8
        subst hR
        clear hall HR1 HR2 HR3 HR4 cC
        go_upto_region 36 with fail
        replace hS := hS.below (Below.refl _ _).drew
        replace hout := hout.below (Below.refl _ _).drew
        refine wp_region_TS (S := DidS g6 w6 A m c (.slice none 0 0)) 12 (by kernel_rfl) ?_
        refine WpT.take (i := 0) rfl (by kernel_rfl) (fun _ _ _ h => h) (.inl ⟨by rfl, fun w hSw => by clear hSw; go_simp; (try go_bits); (try rw [if_pos (by omega)]); (try with_reducible rfl)⟩) (hS) ?_
        try simp only [nrm]
        refine WpT.take (i := 1) rfl (by kernel_rfl) (fun _ _ _ h => h) (yields_load1S rfl rfl rfl (by kernel_rfl) (fun W h => h.outC)) (hS) ?_
        try simp only [nrm]
        refine WpT.take (i := 2) rfl (by kernel_rfl) (fun _ _ _ h => h) (.inl ⟨by rfl, fun w hSw => by clear hSw; go_simp; (try go_bits); (try rw [if_pos (by omega)]); (try with_reducible rfl)⟩) (hS) ?_
        try simp only [nrm]
        refine WpT.take (i := 3) rfl (by kernel_rfl) (fun _ _ _ h => h) (yields_loadS (us := pxL v L) rfl rfl rfl aggPx (by rw [sizePx, pxL_len]) (fun W h => (HQ.out W (HQ3.out W h.old)).2.2.2.2.1)) (hS) ?_
        try simp only [nrm]
        refine WpT.take (i := 4) rfl (by kernel_rfl) (fun _ _ _ h => h) (yields_loadS (us := [.slice A m c]) rfl rfl rfl aggSt (by rw [sizeSt]; rfl) (fun W h => blk_cells (HQ2.out W h.old))) (hS) ?_
        try simp only [nrm]
        refine WpT.take (i := 5) rfl (by kernel_rfl) (fun _ _ _ h => h) (.inl ⟨by rfl, fun w hSw => by clear hSw; go_simp; (try go_bits); (try rw [if_pos (by omega)]); (try with_reducible rfl)⟩) (hS) ?_
        try simp only [nrm]
        refine WpT.take (i := 6) rfl (by kernel_rfl) (fun _ _ _ h => h) (yields_loadS (us := pxL v L) rfl rfl rfl aggPx (by rw [sizePx, pxL_len]) (fun W h => (HQ.out W (HQ3.out W h.old)).2.2.2.2.1)) (hS) ?_
        try simp only [nrm]
        refine WpT.one (i := 7) rfl (by kernel_rfl) (fun K hK => ?_)
        go_simp; refine (HNA.out _ (HBX.out _ hS.old)).mono ?_; rintro e w10 ⟨u7, rfl, own7, hb10⟩; obtain ⟨A7, c7, rfl, -, -, -⟩ := own7.form; replace hS := hS.below hb10; replace hout := hout.below hb10; replace own7 := own7.lower (C := w6.heap.size) hsz
        refine hK _ _ (hS) ?_; clear hK K; try simp only [nrm]
        refine WpT.take (i := 8) rfl (by kernel_rfl) (fun _ _ _ h => h) (yields_build3 rfl rfl (by rfl) (by rfl) (by rfl) (HNQ.out A7 lp.length c7)) (hS) ?_
        try simp only [nrm]
        refine WpT.one (i := 9) rfl (by kernel_rfl) (fun K hK => ?_)
        refine wp_lit1P ⟨NP, A7, lp.length, c7⟩ rfl (by rfl) ?_; intro w11 g11 hg11 hr11 hb11; clear hg11; replace hS := hS.below hb11; replace hout := hout.below hb11; replace own7 := own7.below hb11
        refine hK _ _ (hS) ?_; clear hK K; try simp only [nrm]
        refine WpT.one (i := 10) rfl (by kernel_rfl) (fun K hK => ?_)
        refine wp_appO rfl elemPa (by rfl) hout.1 (by rfl) (m := 1) (ys := paRs [⟨NP, A7, lp.length, c7⟩]) hr11 (one_paRs _) (by simp only [List.length_nil]; omega) (Nat.le_trans hsz (Nat.le_trans hb10.size hb11.size)) ?_; intro v12 w12 own12 hg12 hb12 hv12; have hS12 := hS.grown hout.1 (by decide) hg12 HG6W.out hb12; have hout12 := OutP.app (ks := [⟨NP, A7, lp.length, c7⟩]) hout (fun r hr => by obtain rfl := List.mem_singleton.1 hr; show OwnDs _ _ _ NP.names; rw [HNM.out]; exact own7) own12 hg12; replace hS := hS12
        refine hK _ _ (hS) ?_; clear hK K; try simp only [nrm]
        refine WpT.take (i := 11) rfl (by kernel_rfl) (fun _ _ _ h => h) (.inl ⟨by rfl, fun w hSw => by clear hSw; go_simp; (try go_bits); (try rw [if_pos (by omega)]); (try with_reducible rfl)⟩) (hS) ?_
        try simp only [nrm]
        refine WpT.tail (i := 12) rfl (by kernel_rfl) (by kernel_rfl) (fun K hK => ?_)
        refine wp_set (j := 1) (v := v12) (cs' := didC A m c v12 0) rfl (by kernel_rfl) (by rfl) (by rfl) hout12.one hS.blk (by simp) (by simp) ?_; intro w13 ht13 b13
        refine hK _ _ ?_; clear hK K; try simp only [nrm]
        refine WpT.done (by kernel_rfl) ?_ _
        skip
        have hS13 : DidS g6 w6 A m c v12 w13 := ⟨hS.old.trans (ht13.below _ (Nat.le_refl _)), b13⟩
        have hout13 := hout12.turnedD hS.blk ht13
        clear hS hout hout12 own12 hg12 hb12 hS12 hr11 hb11 hb10 own7 ht13 b13
        have HM : Hid ((([] : List PaR) ++ [(⟨NP, A7, lp.length, c7⟩ : PaR)]).map (·.p) = [NP]) := Lib.hid rfl
        go_wp2_with first
          | ((with_reducible show wpList _ _ _ (⟨some 174, _, _, _, _, _⟩ :: _) _ _); refine wpList_loadRow rfl rfl rfl hS13.blk aggDid (by rw [sizeDid]; rfl) ?_)
          | ((with_reducible show wpList _ _ _ (⟨none, _, _, _, _, _⟩ :: _) _ _); refine wpList_put (vs := didC A m c v12 0) rfl rfl rfl rfl (HQ4.out _ hS13.old) rfl (by rw [sizeDid]; rfl) (one_didC _ _ _ _ _ hout13.one) ?_; intro w20 ht20 b20)
        have hbE := (HBX.out _ hS13.old).trans (ht20.below _ (by omega))
        exact ret_blk rfl rfl rfl b20 aggDid (by rw [sizeDid]; rfl) ⟨A, m, c, v12, _, rfl, (HST.out _ hbE).rd, (hout13.turnedD (HQ4.out _ hS13.old) ht20).lower hsw, HM.out, hbE⟩
      · have dN : decide ((lp.length : Int) ≤ 8) = false := by rw [decide_eq_false_iff_not]; omega
        by_cases hC8 : cnt ≤ 8
        · have dC : decide (cnt ≤ 8) = true := by rw [decide_eq_true_eq]; exact hC8
          have hR := HR3.out hall (by omega) hC8
          subst hR
          clear hall HR1 HR2 HR3 HR4 hC8
          have c61 := hS.outC
          have hnil := hout.1
          go_wp2_with first
            | ((with_reducible show wpList _ _ _ (⟨some 180, _, _, _, _, _⟩ :: _) _ _); refine wpList_loadRow rfl rfl rfl b14 aggPa (by rw [sizePa, hVs]) ?_)
            | ((with_reducible show wpList _ _ _ (⟨some 181, _, _, _, _, _⟩ :: _) _ _); refine wpList_lit1P rfl ⟨SP, none, 0, 0⟩ rfl (by show _ = Value.agg (paC SP none 0 0); rw [HVPE.out]; rfl) ?_; intro w10 g10 hg10 hr10 hb10; clear hg10)
            | ((with_reducible show wpList _ _ _ (⟨some 182, _, _, _, _, _⟩ :: _) _ _); refine wpList_appO rfl rfl elemPa rfl (ownsRow_below hnil hb10) rfl (m := 1) (ys := paRs [⟨SP, none, 0, 0⟩]) hr10 (one_paRs _) (by simp only [List.length_nil]; omega) (Nat.le_trans hsz hb10.size) ?_; intro v11 w11 own11 hg11 hv11; have hS11 := (hS.below hb10).grown2 (ownsRow_below hnil hb10) (by decide) hg11 HG6W.out; have hout11 := OutP.app (ks := [⟨SP, none, 0, 0⟩]) (OutP.nil w10 w6.heap.size) (fun r hr => by obtain rfl := List.mem_singleton.1 hr; show OwnDs _ _ _ SP.names; rw [HSN.out.1]; exact OwnDs.nil _ _) own11 hg11)
            | ((with_reducible show wpList _ _ _ (⟨none, _, _, _, _, _⟩ :: _) _ _); refine wpList_set (j := 1) (v := v11) (cs' := didC A m c v11 0) rfl rfl (by kernel_rfl) rfl rfl hout11.one hS11.blk (by simp) (by simp) ?_; intro w12 ht12 b12; have hS12 : DidS g6 w6 A m c v11 w12 := ⟨hS11.old.trans (ht12.below _ (Nat.le_refl _)), b12⟩; have hout12 := hout11.turnedD hS11.blk ht12)
            | ((with_reducible show wpList _ _ _ (⟨some 184, _, _, _, _, _⟩ :: _) _ _); refine wpList_loadRow rfl rfl rfl hS12.blk aggDid (by rw [sizeDid]; rfl) ?_)
            | ((with_reducible show wpList _ _ _ (⟨none, _, _, _, _, _⟩ :: _) _ _); refine wpList_put (vs := didC A m c v11 0) rfl rfl rfl rfl (HQ4.out _ hS12.old) rfl (by rw [sizeDid]; rfl) (one_didC _ _ _ _ _ hout12.one) ?_; intro w20 ht20 b20)
          have hbE := (HBX.out _ hS12.old).trans (ht20.below _ (by omega))
          exact ret_blk rfl rfl rfl b20 aggDid (by rw [sizeDid]; rfl) ⟨A, m, c, v11, _, rfl, (HST.out _ hbE).rd, (hout12.turnedD (HQ4.out _ hS12.old) ht20).lower hsw, rfl, hbE⟩
        · have dC : decide (cnt ≤ 8) = false := by rw [decide_eq_false_iff_not]; exact hC8
          have hR := HR4.out hall (by omega) (by omega)
          subst hR
          have h127 := HL127.out (by omega)
          have HH1' := Lib.hid (HH1.out h127)
          have HH2' := Lib.hid (HH2.out h127)
          have HS1' := Lib.hid (HS1.out h127)
          have HS2' := Lib.hid (HS2.out h127)
          obtain ⟨X1, hX1⟩ : ∃ X, paV S1 none 0 0 = X := ⟨_, rfl⟩
          obtain ⟨X2, hX2⟩ : ∃ X, paV S2 none 0 0 = X := ⟨_, rfl⟩
          rw [hX1] at HS1'
          rw [hX2] at HS2'
          have HX1 := Lib.hid hX1
          have HX2 := Lib.hid hX2
          clear hall HR1 HR2 HR3 HR4 hC8 h127 HH1 HH2 HS1 HS2 hX1 hX2
          go_upto_region 41 with fail
          clear cC cN
          replace hS := hS.below (Below.refl _ _).drew
          replace hout := hout.below (Below.refl _ _).drew
          refine wp_region_TS (S := DidS g6 w6 A m c (.slice none 0 0)) 15 (by kernel_rfl) ?_
          refine WpT.take (i := 0) rfl (by kernel_rfl) (fun _ _ _ h => h) (.inl ⟨by rfl, fun w hSw => by clear hSw; go_simp; (try go_bits); (try rw [if_pos (by omega)]); (try with_reducible rfl)⟩) (hS) ?_
          try simp only [nrm]
          refine WpT.take (i := 1) rfl (by kernel_rfl) (fun _ _ _ h => h) (yields_load1S rfl rfl rfl (by kernel_rfl) (fun W h => h.outC)) (hS) ?_
          try simp only [nrm]
          refine WpT.take (i := 2) rfl (by kernel_rfl) (fun _ _ _ h => h) (yields_loadS (us := [.slice A m c]) rfl rfl rfl aggSt (by rw [sizeSt]; rfl) (fun W h => blk_cells (HQ2.out W h.old))) (hS) ?_
          try simp only [nrm]
          refine WpT.take (i := 3) rfl (by kernel_rfl) (fun _ _ _ h => h) (.inl ⟨by rfl, fun w hSw => by clear hSw; go_simp; (try go_bits); (try rw [if_pos (by omega)]); (try with_reducible rfl)⟩) (hS) ?_
          try simp only [nrm]
          refine WpT.take (i := 4) rfl (by kernel_rfl) (fun _ _ _ h => h) (yields_loadS (us := pxL v L) rfl rfl rfl aggPx (by rw [sizePx, pxL_len]) (fun W h => (HQ.out W (HQ3.out W h.old)).2.2.2.2.1)) (hS) ?_
          try simp only [nrm]
          refine WpT.take (i := 7) rfl (by kernel_rfl) (fun _ _ _ h => h) (yields_loadS (us := [.slice A m c]) rfl rfl rfl aggSt (by rw [sizeSt]; rfl) (fun W h => blk_cells (HQ2.out W h.old))) (hS) ?_
          try simp only [nrm]
          refine WpT.take (i := 8) rfl (by kernel_rfl) (fun _ _ _ h => h) (.inl ⟨by rfl, fun w hSw => by clear hSw; go_simp; (try go_bits); (try rw [if_pos (by omega)]); (try with_reducible rfl)⟩) (hS) ?_
          try simp only [nrm]
          refine WpT.take (i := 9) rfl (by kernel_rfl) (fun _ _ _ h => h) (yields_loadS (us := pxL v L) rfl rfl rfl aggPx (by rw [sizePx, pxL_len]) (fun W h => (HQ.out W (HQ3.out W h.old)).2.2.2.2.1)) (hS) ?_
          try simp only [nrm]
          refine WpT.one (i := 5) rfl (by kernel_rfl) (fun K hK => ?_)
          go_simp; refine (HH1'.out _).mono ?_; rintro e w10 ⟨rfl, hb10⟩; replace hS := hS.below hb10; replace hout := hout.below hb10
          refine hK _ _ (hS) ?_; clear hK K; try simp only [nrm]
          refine WpT.one (i := 6) rfl (by kernel_rfl) (fun K hK => ?_)
          go_simp; refine (HS1'.out _ (HBX.out _ hS.old)).mono ?_; rintro e w11 ⟨rfl, hb11⟩; replace hS := hS.below hb11; replace hout := hout.below hb11
          refine hK _ _ (hS) ?_; clear hK K; try simp only [nrm]
          refine WpT.one (i := 10) rfl (by kernel_rfl) (fun K hK => ?_)
          go_simp; refine (HH2'.out _).mono ?_; rintro e w12 ⟨rfl, hb12⟩; replace hS := hS.below hb12; replace hout := hout.below hb12
          refine hK _ _ (hS) ?_; clear hK K; try simp only [nrm]
          refine WpT.one (i := 11) rfl (by kernel_rfl) (fun K hK => ?_)
          go_simp; refine (HS2'.out _ (HBX.out _ hS.old)).mono ?_; rintro e w13 ⟨rfl, hb13⟩; replace hS := hS.below hb13; replace hout := hout.below hb13
          refine hK _ _ (hS) ?_; clear hK K; try simp only [nrm]
          refine WpT.one (i := 12) rfl (by kernel_rfl) (fun K hK => ?_)
          refine wp_lit2P ⟨S1, none, 0, 0⟩ ⟨S2, none, 0, 0⟩ rfl ((show _ = X1 from by rfl).trans HX1.out.symm) ((show _ = X2 from by rfl).trans HX2.out.symm) ?_; intro w14 g15 hg15 hr14 hb14; clear hg15; replace hS := hS.below hb14; replace hout := hout.below hb14
          refine hK _ _ (hS) ?_; clear hK K; try simp only [nrm]
          refine WpT.one (i := 13) rfl (by kernel_rfl) (fun K hK => ?_)
          refine wp_appO rfl elemPa (by rfl) hout.1 (by rfl) (m := 2) (ys := paRs [⟨S1, none, 0, 0⟩, ⟨S2, none, 0, 0⟩]) hr14 (one_paRs _) (by simp only [List.length_nil]; omega) (Nat.le_trans hsz (Nat.le_trans hb10.size (Nat.le_trans hb11.size (Nat.le_trans hb12.size (Nat.le_trans hb13.size hb14.size))))) ?_; intro v15 w15 own15 hg15 hb15 hv15; have hS15 := hS.grown hout.1 (by decide) hg15 HG6W.out hb15; have hout15 := OutP.app (ks := [⟨S1, none, 0, 0⟩, ⟨S2, none, 0, 0⟩]) hout (fun r hr => by rcases List.mem_cons.1 hr with rfl | hr; (show OwnDs _ _ _ S1.names; rw [HSN.out.2.1]; exact OwnDs.nil _ _); (obtain rfl := List.mem_singleton.1 hr; show OwnDs _ _ _ S2.names; rw [HSN.out.2.2]; exact OwnDs.nil _ _)) own15 hg15; replace hS := hS15
          refine hK _ _ (hS) ?_; clear hK K; try simp only [nrm]
          refine WpT.take (i := 14) rfl (by kernel_rfl) (fun _ _ _ h => h) (.inl ⟨by rfl, fun w hSw => by clear hSw; go_simp; (try go_bits); (try rw [if_pos (by omega)]); (try with_reducible rfl)⟩) (hS) ?_
          try simp only [nrm]
          refine WpT.tail (i := 15) rfl (by kernel_rfl) (by kernel_rfl) (fun K hK => ?_)
          refine wp_set (j := 1) (v := v15) (cs' := didC A m c v15 0) rfl (by kernel_rfl) (by rfl) (by rfl) hout15.one hS.blk (by simp) (by simp) ?_; intro w16 ht16 b16
          refine hK _ _ ?_; clear hK K; try simp only [nrm]
          refine WpT.done (by kernel_rfl) ?_ _
          skip
          have hS13 : DidS g6 w6 A m c v15 w16 := ⟨hS.old.trans (ht16.below _ (Nat.le_refl _)), b16⟩
          have hout13 := hout15.turnedD hS.blk ht16
          clear hS hout hout15 own15 hg15 hb15 hS15 hr14 hb14 hb10 hb11 hb12 hb13 ht16 b16
          have HM : Hid ((([] : List PaR) ++ [(⟨S1, none, 0, 0⟩ : PaR), ⟨S2, none, 0, 0⟩]).map (·.p) = [S1, S2]) := Lib.hid rfl
          go_wp2_with first
            | ((with_reducible show wpList _ _ _ (⟨some 200, _, _, _, _, _⟩ :: _) _ _); refine wpList_loadRow rfl rfl rfl hS13.blk aggDid (by rw [sizeDid]; rfl) ?_)
            | ((with_reducible show wpList _ _ _ (⟨none, _, _, _, _, _⟩ :: _) _ _); refine wpList_put (vs := didC A m c v15 0) rfl rfl rfl rfl (HQ4.out _ hS13.old) rfl (by rw [sizeDid]; rfl) (one_didC _ _ _ _ _ hout13.one) ?_; intro w20 ht20 b20)
          have hbE := (HBX.out _ hS13.old).trans (ht20.below _ (by omega))
          exact ret_blk rfl rfl rfl b20 aggDid (by rw [sizeDid]; rfl) ⟨A, m, c, v15, _, rfl, (HST.out _ hbE).rd, (hout13.turnedD (HQ4.out _ hS13.old) ht20).lower hsw, HM.out, hbE⟩
end Go.Proofs.YtieamjjnofelcaaDoor
