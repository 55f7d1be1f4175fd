/-
  The law LexerIsLocal, walked. Conditions: the library's table of spaces stands.
-/
import Derived.Test.YtiajmdmofjfdcaaGreatDoorZu
namespace Go.Proofs.YtiajmdmofjfdcaaGreatDoor
set_option linter.unusedSimpArgs false
set_option linter.unusedVariables false
open Go.RowKit Lexr
theorem joinLf (a b : ByteArray) : (a ++ (⟨#[10]⟩ : ByteArray) ++ b).data.toList = a.data.toList ++ 10 :: b.data.toList := by simp
theorem sizeLf (a b : ByteArray) : (a ++ (⟨#[10]⟩ : ByteArray) ++ b).size = a.size + b.size + 1 := by
  simp only [ByteArray.size, ByteArray.data_append, Array.size_append]
  show a.data.size + 1 + b.data.size = _
  omega
theorem list_size (a : ByteArray) : a.data.toList.length = a.size := (Lib.size_eq a).symm
structure LfJoin (a b X1 X2 : ByteArray) : Prop where
  r1 : ∀ W, (binOp .add 9 (.string a) (.string ⟨#[10]⟩)).run Tryz.prog W = .ok (.string X1) W
  r2 : ∀ W, (binOp .add 9 (.string X1) (.string b)).run Tryz.prog W = .ok (.string X2) W
  l : X2.data.toList = a.data.toList ++ 10 :: b.data.toList
  z : X2.size = a.size + b.size + 1
theorem lfJoin (a b : ByteArray) (ha : a.size ≤ 1099511627776) (hb : b.size ≤ 1099511627776) : ∃ X1 X2, LfJoin a b X1 X2 := by
  refine ⟨_, _, fun W => run_addS a ⟨#[10]⟩ W ?_, fun W => run_addS (a ++ ⟨#[10]⟩) b W ?_, joinLf a b, sizeLf a b⟩
  · show a.size + 1 ≤ _; omega
  · have h : (a ++ (⟨#[10]⟩ : ByteArray)).size = a.size + 1 := by
      simp only [ByteArray.size, ByteArray.data_append, Array.size_append]
      rfl
    rw [h]; omega
set_option maxRecDepth 20000 in
set_option maxHeartbeats 4000000 in
theorem loc_big (a b : ByteArray) (w : World) (hg : GTab w) (h : 2000 < a.size ∨ 2000 < b.size) : Calls Tryz.prog 4 #[.string a, .string b] w (LawIs w) := by
  have HG := Lib.hid hg
  clear hg
  by_cases ha : 2000 < a.size
  · have da : decide ((2000 : Int) < (a.size : Int)) = true := by rw [decide_eq_true_eq]; omega
    have dan : decide (2000 < a.size) = true := by rw [decide_eq_true_eq]; omega
    clear ha h
    go_enter Tryz.func4, Tryz.ntmps4
    go_wp2_with fail
    refine (sanity_any _ HG.out).mono ?_
    rintro e w1 ⟨rfl, hb1⟩
    go_wp2_with fail
    go_ret
    exact ⟨rfl, hb1⟩
  · have hb : 2000 < b.size := by omega
    have da : decide ((2000 : Int) < (a.size : Int)) = false := by rw [decide_eq_false_iff_not]; omega
    have dan : decide (2000 < a.size) = false := by rw [decide_eq_false_iff_not]; omega
    have db : decide ((2000 : Int) < (b.size : Int)) = true := by rw [decide_eq_true_eq]; omega
    have dbn : decide (2000 < b.size) = true := by rw [decide_eq_true_eq]; omega
    clear ha hb h
    go_enter Tryz.func4, Tryz.ntmps4
    go_wp2_with fail
    refine (sanity_any _ HG.out).mono ?_
    rintro e w1 ⟨rfl, hb1⟩
    go_wp2_with fail
    go_ret
    exact ⟨rfl, hb1⟩
set_option maxRecDepth 20000 in
set_option maxHeartbeats 8000000 in
theorem loc_err1 (a b : ByteArray) (p : Int × Int) (w : World) (hg : GTab w) (ha : a.size ≤ 2000) (hb : b.size ≤ 2000) (hA : tokens a.data.toList = .error p) : Calls Tryz.prog 4 #[.string a, .string b] w (LawIs w) := by
  obtain ⟨X1, X2, hj⟩ := lfJoin a b (by omega) (by omega)
  have HJ := Lib.hid hj
  have HG := Lib.hid hg
  have HB := Lib.hid (Below.refl w.heap.size w)
  have da : decide ((2000 : Int) < (a.size : Int)) = false := by rw [decide_eq_false_iff_not]; omega
  have dan : decide (2000 < a.size) = false := by rw [decide_eq_false_iff_not]; omega
  have db : decide ((2000 : Int) < (b.size : Int)) = false := by rw [decide_eq_false_iff_not]; omega
  have dbn : decide (2000 < b.size) = false := by rw [decide_eq_false_iff_not]; omega
  have hXs : X2.size ≤ 1099511627776 := by rw [hj.z]; omega
  have hX : tokens X2.data.toList = .error p := by rw [hj.l, tokens_app _ _ (by rw [list_size, list_size]; omega), hA]; rfl
  have hp0 := tokens_err hA
  have hpn : (p.2 != 0) = true := by simpa using hp0
  have HA := Lib.hid hA
  have HX := Lib.hid hX
  have has : a.size ≤ 1099511627776 := by omega
  have hbs : b.size ≤ 1099511627776 := by omega
  clear hg hj hA hX hp0 ha hb
  go_enter Tryz.func4, Tryz.ntmps4
  go_wp2_with fail
  refine (tokens_bad _ has HG.out HA.out).mono ?_
  rintro e w1 ⟨rfl, hb1⟩
  replace HG := Lib.hid (HG.out.below hb1)
  replace HB := Lib.hid (bstep HB.out hb1)
  clear hb1
  go_wp2_with (first
      | ((with_reducible show wpList _ _ _ ({ dst := some 6, op := _, type := _, pos := _, after := _, guard := _ } :: _) _ _); refine wpList_new (cs := #[.int .i64 0, .int .i64 0]) rfl rfl zeroPr ?_; intro wn1 g1 hg1 bn1 hn1 lt1; have HN1 := Lib.hid hg1; clear hg1 lt1)
      | ((with_reducible show wpList _ _ _ ({ dst := none, op := _, type := _, pos := _, after := _, guard := _ } :: _) _ _); refine wpList_put (vs := prC p) rfl rfl rfl rfl bn1 rfl (by rw [sizePr]; rfl) (by simp [Value.oneCell', prC]) ?_; intro wp1 ht1 bp1))
  have hq1 := hn1.trans (ht1.below _ (by have := HN1.out; omega))
  clear bn1 hn1 ht1 HN1
  replace HG := Lib.hid (HG.out.below hq1)
  replace HB := Lib.hid (bstep HB.out hq1)
  clear hq1
  have HP1 := Lib.hid bp1
  clear bp1
  refine (tokens_some _ _ hbs HG.out).mono ?_
  rintro e w2 ⟨v2, q2, rfl, hb2⟩
  replace HG := Lib.hid (HG.out.below hb2)
  replace HP1 := Lib.hid (HP1.out.below hb2)
  replace HB := Lib.hid (bstep HB.out hb2)
  clear hb2
  go_wp2_with (first
      | ((with_reducible show wpList _ _ _ ({ dst := some 35, op := _, type := _, pos := _, after := _, guard := _ } :: _) _ _); refine wpList_opG HJ.out.r1 (by rfl) rfl rfl rfl (fun W => by kernel_rfl) ?_)
      | ((with_reducible show wpList _ _ _ ({ dst := some 37, op := _, type := _, pos := _, after := _, guard := _ } :: _) _ _); refine wpList_opG HJ.out.r2 (by rfl) rfl rfl rfl (fun W => by kernel_rfl) ?_)
      | ((with_reducible show wpList _ _ _ ({ dst := some 8, op := _, type := _, pos := _, after := _, guard := _ } :: _) _ _); refine wpList_new (cs := #[.int .i64 0, .int .i64 0]) rfl rfl zeroPr ?_; intro wn2 g2 hg2 bn2 hn2 lt2; have HN2 := Lib.hid hg2; clear hg2 lt2)
      | ((with_reducible show wpList _ _ _ ({ dst := none, op := _, type := _, pos := _, after := _, guard := _ } :: _) _ _); refine wpList_put (vs := prC q2) rfl rfl rfl rfl bn2 rfl (by rw [sizePr]; rfl) (by simp [Value.oneCell', prC]) ?_; intro wp2 ht2 bp2))
  have hq2 := hn2.trans (ht2.below _ (by have := HN2.out; omega))
  clear bn2 hn2 ht2 HN2
  replace HG := Lib.hid (HG.out.below hq2)
  replace HP1 := Lib.hid (HP1.out.below hq2)
  replace HB := Lib.hid (bstep HB.out hq2)
  clear hq2
  have HP2 := Lib.hid bp2
  clear bp2
  refine (tokens_bad _ hXs HG.out HX.out).mono ?_
  rintro e w3 ⟨rfl, hb3⟩
  replace HG := Lib.hid (HG.out.below hb3)
  replace HP1 := Lib.hid (HP1.out.below hb3)
  replace HP2 := Lib.hid (HP2.out.below hb3)
  replace HB := Lib.hid (bstep HB.out hb3)
  clear hb3
  go_upto_region 6 with (first
      | ((with_reducible show wpList _ _ _ ({ dst := some 10, op := _, type := _, pos := _, after := _, guard := _ } :: _) _ _); refine wpList_new (cs := #[.int .i64 0, .int .i64 0]) rfl rfl zeroPr ?_; intro wn3 g3 hg3 bn3 hn3 lt3; have HN3 := Lib.hid hg3; clear hg3 lt3)
      | ((with_reducible show wpList _ _ _ ({ dst := none, op := _, type := _, pos := _, after := _, guard := _ } :: _) _ _); refine wpList_put (vs := prC p) rfl rfl rfl rfl bn3 rfl (by rw [sizePr]; rfl) (by simp [Value.oneCell', prC]) ?_; intro wp3 ht3 bp3))
  have hq3 := hn3.trans (ht3.below _ (by have := HN3.out; omega))
  clear bn3 hn3 ht3 HN3
  replace HG := Lib.hid (HG.out.below hq3)
  replace HP1 := Lib.hid (HP1.out.below hq3)
  replace HP2 := Lib.hid (HP2.out.below hq3)
  replace HB := Lib.hid (bstep HB.out hq3)
  clear hq3
  have HP3 := Lib.hid bp3
  clear bp3
  have c1 : wp3.cell? ⟨g1, 1, none⟩ = some (.int .i64 p.2) := by have := HP1.out.cell 1; simpa [prC] using this
  go_upto_region 7 with ((with_reducible show wpList _ _ _ ({ dst := some 42, op := _, type := _, pos := _, after := _, guard := _ } :: _) _ _); refine wpList_loadV (by rfl) rfl rfl (by kernel_rfl) c1 ?_)
  clear c1
  go_wp2_with fail
  refine (sanity_any _ HG.out).mono ?_
  rintro e w4 ⟨rfl, hb4⟩
  replace HG := Lib.hid (HG.out.below hb4)
  replace HP1 := Lib.hid (HP1.out.below hb4)
  replace HP2 := Lib.hid (HP2.out.below hb4)
  replace HP3 := Lib.hid (HP3.out.below hb4)
  replace HB := Lib.hid (bstep HB.out hb4)
  clear hb4
  have q1 := blk_rowL (xs := [.int .i64 p.1, .int .i64 p.2]) HP1.out
  have q3 := blk_rowL (xs := [.int .i64 p.1, .int .i64 p.2]) HP3.out
  have he := eql_Pr p p
  rw [decide_eq_true rfl] at he
  go_wp2_with (first
      | ((with_reducible show wpList _ _ _ ({ dst := some 46, op := _, type := _, pos := _, after := _, guard := _ } :: _) _ _); refine wpList_loadKW (us := [.int .i64 p.1, .int .i64 p.2]) (by rfl) rfl rfl aggPr (by rw [sizePr]; rfl) q3 ?_)
      | ((with_reducible show wpList _ _ _ ({ dst := some 47, op := _, type := _, pos := _, after := _, guard := _ } :: _) _ _); refine wpList_loadKW (us := [.int .i64 p.1, .int .i64 p.2]) (by rfl) rfl rfl aggPr (by rw [sizePr]; rfl) q1 ?_)
      | ((with_reducible show wpList _ _ _ ({ dst := some 48, op := _, type := _, pos := _, after := _, guard := _ } :: _) _ _); refine wpList_opG he (by rfl) rfl rfl rfl (fun W => by kernel_rfl) ?_))
  go_ret
  exact ⟨rfl, HB.out⟩
set_option maxRecDepth 20000 in
set_option maxHeartbeats 8000000 in
theorem loc_err2 (a b : ByteArray) (ts : List Tok) (p : Int × Int) (w : World) (hg : GTab w) (ha : a.size ≤ 2000) (hb : b.size ≤ 2000) (hA : tokens a.data.toList = .ok ts) (hB : tokens b.data.toList = .error p) : Calls Tryz.prog 4 #[.string a, .string b] w (LawIs w) := by
  obtain ⟨X1, X2, hj⟩ := lfJoin a b (by omega) (by omega)
  have HJ := Lib.hid hj
  have HG := Lib.hid hg
  have HB := Lib.hid (Below.refl w.heap.size w)
  have da : decide ((2000 : Int) < (a.size : Int)) = false := by rw [decide_eq_false_iff_not]; omega
  have dan : decide (2000 < a.size) = false := by rw [decide_eq_false_iff_not]; omega
  have db : decide ((2000 : Int) < (b.size : Int)) = false := by rw [decide_eq_false_iff_not]; omega
  have dbn : decide (2000 < b.size) = false := by rw [decide_eq_false_iff_not]; omega
  have hXs : X2.size ≤ 1099511627776 := by rw [hj.z]; omega
  have hX : tokens X2.data.toList = .error (p.1 + a.size + 1, p.2) := by rw [hj.l, tokens_app _ _ (by rw [list_size, list_size]; omega), hA, hB, list_size]; simp [joinR, shiftR]; omega
  have hp0 := tokens_err hB
  have hp1 := tokens_errAt hB
  rw [list_size] at hp1
  have hpn : (p.2 != 0) = true := by simpa using hp0
  have HA := Lib.hid hA
  have HX := Lib.hid hX
  have HY := Lib.hid hB
  have has : a.size ≤ 1099511627776 := by omega
  have hbs : b.size ≤ 1099511627776 := by omega
  have he : ∀ W, (binOp .eql 26 (prV (p.1 + a.size + 1, p.2)) (prV (p.1 + a.size + 1, p.2))).run Tryz.prog W = .ok (.bool true) W := fun W => by rw [eql_Pr, decide_eq_true rfl]
  have HPB : Hid (0 ≤ p.1 ∧ p.1 ≤ 2000) := Lib.hid (by omega)
  have HHE := Lib.hid he
  clear hg hj hA hB hX hp0 he hp1
  go_enter Tryz.func4, Tryz.ntmps4
  go_wp2_with fail
  refine (tokens_ok _ has HG.out HA.out).mono ?_
  rintro e w1 ⟨A1, n1, rfl, -, -, -, -, hb1⟩
  replace HG := Lib.hid (HG.out.below hb1)
  replace HB := Lib.hid (bstep HB.out hb1)
  clear hb1
  go_wp2_with (first
      | ((with_reducible show wpList _ _ _ ({ dst := some 6, op := _, type := _, pos := _, after := _, guard := _ } :: _) _ _); refine wpList_new (cs := #[.int .i64 0, .int .i64 0]) rfl rfl zeroPr ?_; intro wn1 g1 hg1 bn1 hn1 lt1; have HN1 := Lib.hid hg1; clear hg1 lt1)
      | ((with_reducible show wpList _ _ _ ({ dst := none, op := _, type := _, pos := _, after := _, guard := _ } :: _) _ _); refine wpList_put (vs := prC (0, 0)) rfl rfl rfl rfl bn1 rfl (by rw [sizePr]; rfl) (by simp [Value.oneCell', prC]) ?_; intro wp1 ht1 bp1))
  have hq1 := hn1.trans (ht1.below _ (by have := HN1.out; omega))
  clear bn1 hn1 ht1 HN1
  replace HG := Lib.hid (HG.out.below hq1)
  replace HB := Lib.hid (bstep HB.out hq1)
  clear hq1
  have HP1 := Lib.hid bp1
  clear bp1
  refine (tokens_bad _ hbs HG.out HY.out).mono ?_
  rintro e w2 ⟨rfl, hb2⟩
  replace HG := Lib.hid (HG.out.below hb2)
  replace HP1 := Lib.hid (HP1.out.below hb2)
  replace HB := Lib.hid (bstep HB.out hb2)
  clear hb2
  go_wp2_with (first
      | ((with_reducible show wpList _ _ _ ({ dst := some 35, op := _, type := _, pos := _, after := _, guard := _ } :: _) _ _); refine wpList_opG HJ.out.r1 (by rfl) rfl rfl rfl (fun W => by kernel_rfl) ?_)
      | ((with_reducible show wpList _ _ _ ({ dst := some 37, op := _, type := _, pos := _, after := _, guard := _ } :: _) _ _); refine wpList_opG HJ.out.r2 (by rfl) rfl rfl rfl (fun W => by kernel_rfl) ?_)
      | ((with_reducible show wpList _ _ _ ({ dst := some 8, op := _, type := _, pos := _, after := _, guard := _ } :: _) _ _); refine wpList_new (cs := #[.int .i64 0, .int .i64 0]) rfl rfl zeroPr ?_; intro wn2 g2 hg2 bn2 hn2 lt2; have HN2 := Lib.hid hg2; clear hg2 lt2)
      | ((with_reducible show wpList _ _ _ ({ dst := none, op := _, type := _, pos := _, after := _, guard := _ } :: _) _ _); refine wpList_put (vs := prC p) rfl rfl rfl rfl bn2 rfl (by rw [sizePr]; rfl) (by simp [Value.oneCell', prC]) ?_; intro wp2 ht2 bp2))
  have hq2 := hn2.trans (ht2.below _ (by have := HN2.out; omega))
  clear bn2 hn2 ht2 HN2
  replace HG := Lib.hid (HG.out.below hq2)
  replace HP1 := Lib.hid (HP1.out.below hq2)
  replace HB := Lib.hid (bstep HB.out hq2)
  clear hq2
  have HP2 := Lib.hid bp2
  clear bp2
  refine (tokens_bad _ hXs HG.out HX.out).mono ?_
  rintro e w3 ⟨rfl, hb3⟩
  replace HG := Lib.hid (HG.out.below hb3)
  replace HP1 := Lib.hid (HP1.out.below hb3)
  replace HP2 := Lib.hid (HP2.out.below hb3)
  replace HB := Lib.hid (bstep HB.out hb3)
  clear hb3
  go_upto_region 6 with (first
      | ((with_reducible show wpList _ _ _ ({ dst := some 10, op := _, type := _, pos := _, after := _, guard := _ } :: _) _ _); refine wpList_new (cs := #[.int .i64 0, .int .i64 0]) rfl rfl zeroPr ?_; intro wn3 g3 hg3 bn3 hn3 lt3; have HN3 := Lib.hid hg3; clear hg3 lt3)
      | ((with_reducible show wpList _ _ _ ({ dst := none, op := _, type := _, pos := _, after := _, guard := _ } :: _) _ _); refine wpList_put (vs := prC (p.1 + a.size + 1, p.2)) rfl rfl rfl rfl bn3 rfl (by rw [sizePr]; rfl) (by simp [Value.oneCell', prC]) ?_; intro wp3 ht3 bp3))
  have hq3 := hn3.trans (ht3.below _ (by have := HN3.out; omega))
  clear bn3 hn3 ht3 HN3
  replace HG := Lib.hid (HG.out.below hq3)
  replace HP1 := Lib.hid (HP1.out.below hq3)
  replace HP2 := Lib.hid (HP2.out.below hq3)
  replace HB := Lib.hid (bstep HB.out hq3)
  clear hq3
  have HP3 := Lib.hid bp3
  clear bp3
  have c1 : wp3.cell? ⟨g1, 1, none⟩ = some (.int .i64 0) := by have := HP1.out.cell 1; simpa [prC] using this
  go_upto_region 8 with ((with_reducible show wpList _ _ _ ({ dst := some 42, op := _, type := _, pos := _, after := _, guard := _ } :: _) _ _); refine wpList_loadV (by rfl) rfl rfl (by kernel_rfl) c1 ?_)
  have c2 : wp3.cell? ⟨g2, 1, none⟩ = some (.int .i64 p.2) := by have := HP2.out.cell 1; simpa [prC] using this
  clear c1
  go_upto_region 9 with ((with_reducible show wpList _ _ _ ({ dst := some 56, op := _, type := _, pos := _, after := _, guard := _ } :: _) _ _); refine wpList_loadV (by rfl) rfl rfl (by kernel_rfl) c2 ?_)
  clear c2
  go_wp2_with fail
  refine (sanity_any _ HG.out).mono ?_
  rintro e w4 ⟨rfl, hb4⟩
  replace HG := Lib.hid (HG.out.below hb4)
  replace HP1 := Lib.hid (HP1.out.below hb4)
  replace HP2 := Lib.hid (HP2.out.below hb4)
  replace HP3 := Lib.hid (HP3.out.below hb4)
  replace HB := Lib.hid (bstep HB.out hb4)
  clear hb4
  have q3 := blk_rowL (xs := [.int .i64 (p.1 + a.size + 1), .int .i64 p.2]) HP3.out
  have c0 : w4.cell? ⟨g2, 0, none⟩ = some (.int .i64 p.1) := by have := HP2.out.cell 0; simpa [prC] using this
  have c1 : w4.cell? ⟨g2, 1, none⟩ = some (.int .i64 p.2) := by have := HP2.out.cell 1; simpa [prC] using this
  have he := HHE.out
  have hpl := HPB.out.1
  have hph := HPB.out.2
  go_wp2_with (first
      | ((with_reducible show wpList _ _ _ ({ dst := some 60, op := _, type := _, pos := _, after := _, guard := _ } :: _) _ _); refine wpList_loadKW (us := [.int .i64 (p.1 + a.size + 1), .int .i64 p.2]) (by rfl) rfl rfl aggPr (by rw [sizePr]; rfl) q3 ?_)
      | ((with_reducible show wpList _ _ _ ({ dst := some 62, op := _, type := _, pos := _, after := _, guard := _ } :: _) _ _); refine wpList_loadV (by rfl) rfl rfl (by kernel_rfl) c0 ?_)
      | ((with_reducible show wpList _ _ _ ({ dst := some 68, op := _, type := _, pos := _, after := _, guard := _ } :: _) _ _); refine wpList_loadV (by rfl) rfl rfl (by kernel_rfl) c1 ?_)
      | ((with_reducible show wpList _ _ _ ({ dst := some 70, op := _, type := _, pos := _, after := _, guard := _ } :: _) _ _); refine wpList_opG he (by rfl) rfl rfl rfl (fun W => by kernel_rfl) ?_))
  go_ret
  exact ⟨rfl, HB.out⟩
set_option maxRecDepth 20000 in
set_option maxHeartbeats 8000000 in
theorem loc_ok (a b : ByteArray) (ts us : List Tok) (w : World) (hg : GTab w) (ha : a.size ≤ 2000) (hb : b.size ≤ 2000) (hA : tokens a.data.toList = .ok ts) (hB : tokens b.data.toList = .ok us) : Calls Tryz.prog 4 #[.string a, .string b] w (LawIs w) := by
  obtain ⟨X1, X2, hj⟩ := lfJoin a b (by omega) (by omega)
  have HJ := Lib.hid hj
  have HG := Lib.hid hg
  have HB := Lib.hid (Below.refl w.heap.size w)
  have da : decide ((2000 : Int) < (a.size : Int)) = false := by rw [decide_eq_false_iff_not]; omega
  have dan : decide (2000 < a.size) = false := by rw [decide_eq_false_iff_not]; omega
  have db : decide ((2000 : Int) < (b.size : Int)) = false := by rw [decide_eq_false_iff_not]; omega
  have dbn : decide (2000 < b.size) = false := by rw [decide_eq_false_iff_not]; omega
  have hXs : X2.size ≤ 1099511627776 := by rw [hj.z]; omega
  have hX : tokens X2.data.toList = .ok (ts ++ us.map (shiftT ((a.size : Int) + 1))) := by rw [hj.l, tokens_app _ _ (by rw [list_size, list_size]; omega), hA, hB, list_size]; rfl
  have HAT : Hid (∀ t ∈ us, 0 ≤ t.at_ ∧ t.at_ ≤ 2000) := Lib.hid (fun t ht => by have := tokens_at hB t ht; rw [list_size] at this; omega)
  have HL : Hid (ts.length ≤ 2000 ∧ us.length ≤ 2000) := Lib.hid (by have h1 := tokens_len hA; have h2 := tokens_len hB; rw [list_size] at h1 h2; omega)
  have HA := Lib.hid hA
  have HX := Lib.hid hX
  have HY := Lib.hid hB
  have has : a.size ≤ 1099511627776 := by omega
  have hbs : b.size ≤ 1099511627776 := by omega
  clear hg hj hA hB hX
  go_enter Tryz.func4, Tryz.ntmps4
  go_wp2_with fail
  refine (tokens_ok _ has HG.out HA.out).mono ?_
  rintro e w1 ⟨A1, c1, rfl, hrd1, hc1, hm1, -, hb1⟩
  have HL1 : Hid (RdT w1 A1 ts.length ts) := Lib.hid hrd1
  clear hrd1
  replace HG := Lib.hid (HG.out.below hb1)
  replace HB := Lib.hid (bstep HB.out hb1)
  clear hb1
  replace HL1 := Lib.hid (HL1.out)
  go_wp2_with (first
      | ((with_reducible show wpList _ _ _ ({ dst := some 6, op := _, type := _, pos := _, after := _, guard := _ } :: _) _ _); refine wpList_new (cs := #[.int .i64 0, .int .i64 0]) rfl rfl zeroPr ?_; intro wn1 g1 hg1 bn1 hn1 lt1; have HN1 := Lib.hid hg1; clear hg1 lt1)
      | ((with_reducible show wpList _ _ _ ({ dst := none, op := _, type := _, pos := _, after := _, guard := _ } :: _) _ _); refine wpList_put (vs := prC (0, 0)) rfl rfl rfl rfl bn1 rfl (by rw [sizePr]; rfl) (by simp [Value.oneCell', prC]) ?_; intro wp1 ht1 bp1))
  have hq1 := hn1.trans (ht1.below _ (by have := HN1.out; omega))
  clear bn1 hn1 ht1 HN1
  replace HG := Lib.hid (HG.out.below hq1)
  replace HL1 := Lib.hid (HL1.out.below hq1)
  replace HB := Lib.hid (bstep HB.out hq1)
  clear hq1
  have HP1 := Lib.hid bp1
  clear bp1
  refine (tokens_ok _ hbs HG.out HY.out).mono ?_
  rintro e w2 ⟨A2, c2, rfl, hrd2, hc2, hm2, -, hb2⟩
  replace HG := Lib.hid (HG.out.below hb2)
  replace HL1 := Lib.hid (HL1.out.below hb2)
  replace HP1 := Lib.hid (HP1.out.below hb2)
  replace HB := Lib.hid (bstep HB.out hb2)
  clear hb2
  have HL2 : Hid (RdT w2 A2 us.length us) := Lib.hid hrd2
  clear hrd2
  go_wp2_with (first
      | ((with_reducible show wpList _ _ _ ({ dst := some 35, op := _, type := _, pos := _, after := _, guard := _ } :: _) _ _); refine wpList_opG HJ.out.r1 (by rfl) rfl rfl rfl (fun W => by kernel_rfl) ?_)
      | ((with_reducible show wpList _ _ _ ({ dst := some 37, op := _, type := _, pos := _, after := _, guard := _ } :: _) _ _); refine wpList_opG HJ.out.r2 (by rfl) rfl rfl rfl (fun W => by kernel_rfl) ?_)
      | ((with_reducible show wpList _ _ _ ({ dst := some 8, op := _, type := _, pos := _, after := _, guard := _ } :: _) _ _); refine wpList_new (cs := #[.int .i64 0, .int .i64 0]) rfl rfl zeroPr ?_; intro wn2 g2 hg2 bn2 hn2 lt2; have HN2 := Lib.hid hg2; clear hg2 lt2)
      | ((with_reducible show wpList _ _ _ ({ dst := none, op := _, type := _, pos := _, after := _, guard := _ } :: _) _ _); refine wpList_put (vs := prC (0, 0)) rfl rfl rfl rfl bn2 rfl (by rw [sizePr]; rfl) (by simp [Value.oneCell', prC]) ?_; intro wp2 ht2 bp2))
  have hq2 := hn2.trans (ht2.below _ (by have := HN2.out; omega))
  clear bn2 hn2 ht2 HN2
  replace HG := Lib.hid (HG.out.below hq2)
  replace HL1 := Lib.hid (HL1.out.below hq2)
  replace HP1 := Lib.hid (HP1.out.below hq2)
  replace HL2 := Lib.hid (HL2.out.below hq2)
  replace HB := Lib.hid (bstep HB.out hq2)
  clear hq2
  have HP2 := Lib.hid bp2
  clear bp2
  refine (tokens_ok _ hXs HG.out HX.out).mono ?_
  rintro e w3 ⟨A3, c3, rfl, hrd3, hc3, hm3, -, hb3⟩
  replace HG := Lib.hid (HG.out.below hb3)
  replace HL1 := Lib.hid (HL1.out.below hb3)
  replace HP1 := Lib.hid (HP1.out.below hb3)
  replace HL2 := Lib.hid (HL2.out.below hb3)
  replace HP2 := Lib.hid (HP2.out.below hb3)
  replace HB := Lib.hid (bstep HB.out hb3)
  clear hb3
  obtain ⟨XL, hXL⟩ : ∃ XL, ts ++ us.map (shiftT ((a.size : Int) + 1)) = XL := ⟨_, rfl⟩
  rw [hXL] at hrd3 hc3 ⊢
  have HXL := Lib.hid hXL
  have HL3 : Hid (RdT w3 A3 XL.length XL) := Lib.hid hrd3
  clear hrd3 hXL
  go_upto_region 6 with (first
      | ((with_reducible show wpList _ _ _ ({ dst := some 10, op := _, type := _, pos := _, after := _, guard := _ } :: _) _ _); refine wpList_new (cs := #[.int .i64 0, .int .i64 0]) rfl rfl zeroPr ?_; intro wn3 g3 hg3 bn3 hn3 lt3; have HN3 := Lib.hid hg3; clear hg3 lt3)
      | ((with_reducible show wpList _ _ _ ({ dst := none, op := _, type := _, pos := _, after := _, guard := _ } :: _) _ _); refine wpList_put (vs := prC (0, 0)) rfl rfl rfl rfl bn3 rfl (by rw [sizePr]; rfl) (by simp [Value.oneCell', prC]) ?_; intro wp3 ht3 bp3))
  have hq3 := hn3.trans (ht3.below _ (by have := HN3.out; omega))
  clear bn3 hn3 ht3 HN3
  replace HG := Lib.hid (HG.out.below hq3)
  replace HL1 := Lib.hid (HL1.out.below hq3)
  replace HP1 := Lib.hid (HP1.out.below hq3)
  replace HL2 := Lib.hid (HL2.out.below hq3)
  replace HP2 := Lib.hid (HP2.out.below hq3)
  replace HL3 := Lib.hid (HL3.out.below hq3)
  replace HB := Lib.hid (bstep HB.out hq3)
  clear hq3
  have HP3 := Lib.hid bp3
  clear bp3
  have c1e : wp3.cell? ⟨g1, 1, none⟩ = some (.int .i64 0) := by have := HP1.out.cell 1; simpa [prC] using this
  have c2e : wp3.cell? ⟨g2, 1, none⟩ = some (.int .i64 0) := by have := HP2.out.cell 1; simpa [prC] using this
  go_upto_region 8 with ((with_reducible show wpList _ _ _ ({ dst := some 42, op := _, type := _, pos := _, after := _, guard := _ } :: _) _ _); refine wpList_loadV (by rfl) rfl rfl (by kernel_rfl) c1e ?_)
  go_upto_region 10 with ((with_reducible show wpList _ _ _ ({ dst := some 56, op := _, type := _, pos := _, after := _, guard := _ } :: _) _ _); refine wpList_loadV (by rfl) rfl rfl (by kernel_rfl) c2e ?_)
  clear c1e c2e HP1 HP2
  have hr1 : Rd wp3 A1 (ts.length * 3) (ts.flatMap tokL) := HL1.out
  have hl1 := HL.out.1
  have hl2 := HL.out.2
  go_wp2_with (first
      | ((with_reducible show wpList _ _ _ ({ dst := some 77, op := _, type := _, pos := _, after := _, guard := _ } :: _) _ _); refine wpList_lit0Lx rfl rfl ?_; intro w4 g4 hg4 own4 hb4 lt4; have hr4 := hr1.below hb4; have HW4 := Lib.hid hb4; clear hg4)
      | ((with_reducible show wpList _ _ _ ({ dst := some 79, op := _, type := _, pos := _, after := _, guard := _ } :: _) _ _); refine wpList_appK rfl rfl elemLx rfl own4 rfl hr4 (one_flat one_tokL ts) (by omega) hb4.size ?_; intro v5 w5 own5 hg5 hb5; have hw5 := HW4.out.trans hb5; rw [List.nil_append, Nat.zero_add] at own5; clear own4 hr4 hb4 lt4 hg5 hb5))
  have HW := Lib.hid hw5
  clear HW4 hw5 hr1
  go_loopw [11, 12, 13] (fun v11 vi _ wr => ∃ k : Nat, k ≤ us.length ∧ vi = .int .i64 k ∧ wr.ownsRow wp3.heap.size 44 3 v11 (ts.length + k) ((ts ++ (us.take k).map (shiftT ((a.size : Int) + 1))).flatMap tokL) ∧ Hid (Below wp3.heap.size wp3 wr)) (fun _ vi _ _ => us.length - (intOf vi).toNat)
  case atStart => exact ⟨0, Nat.zero_le _, rfl, by simpa using own5, HW⟩
  case round =>
    obtain ⟨k, hk, rfl, ownA, hbw⟩ := hrel
    clear own5 HW
    by_cases hlt : k < us.length
    · obtain ⟨ad, rfl, hca⟩ := (show RdT _ _ _ _ from HL2.out.below hbw.out).get hlt
      have hta := HAT.out _ (List.getElem_mem hlt)
      have hnext : (us.take (k + 1)).map (shiftT ((a.size : Int) + 1)) = (us.take k).map (shiftT ((a.size : Int) + 1)) ++ [shiftT ((a.size : Int) + 1) us[k]] := by rw [← List.take_append_getElem hlt, List.map_append]; rfl
      have HNX := Lib.hid hnext
      clear hnext
      generalize us[k] = x at *
      obtain ⟨xk, xa, xs⟩ := x
      have hxa := hta.1
      have hxb := hta.2
      dsimp only at hxa hxb
      clear hta
      obtain ⟨A11, e11, rfl, h11, h12, -⟩ := ownsRow_form ownA
      obtain ⟨y, hy⟩ : ∃ y, xa + (a.size : Int) + 1 = y := ⟨_, rfl⟩
      have HYE := Lib.hid hy
      clear hy
      go_upto_region 15 with (first
              | ((with_reducible show wpList _ _ _ ({ dst := some 89, op := _, type := _, pos := _, after := _, guard := _ } :: _) _ _); refine wpList_loadK (us := tokL ⟨xk, xa, xs⟩) rfl rfl rfl aggLx (by rw [sizeLx]; rfl) hca ?_)
              | ((with_reducible show wpList _ _ _ ({ dst := some 13, op := _, type := _, pos := _, after := _, guard := _ } :: _) _ _); refine wpList_new (cs := lexC 0 0 []) rfl rfl zeroLx ?_; intro w6 g6 hg6 b6 hb6 lt6; have own6 := ownsRow_below ownA hb6; have hne6 := own_ne_new ownA hg6; have HN6 : Hid (wp3.heap.size ≤ g6 ∧ wr.heap.size ≤ g6) := Lib.hid (by have := hbw.out.size; omega); clear hg6 lt6)
              | ((with_reducible show wpList _ _ _ ({ dst := none, op := _, type := _, pos := _, after := _, guard := _ } :: _) _ _); refine wpList_put (vs := lexC xk xa xs) rfl rfl rfl rfl b6 rfl (by rw [sizeLx]; rfl) (one_lexC _ _ _) ?_; intro w7 ht7 b7; have own7 := ht7.own own6 hne6))
      have hc7 : w7.cell? ⟨g6, 1, none⟩ = some (.int .i64 xa) := by rw [b7.cell 1]; rfl
      clear own6 b6 hca ownA
      go_upto_region 16 with (first
              | ((with_reducible show wpList _ _ _ ({ dst := some 91, op := _, type := _, pos := _, after := _, guard := _ } :: _) _ _); refine wpList_loadV (by rfl) rfl rfl (by kernel_rfl) hc7 ?_)
              | ((with_reducible show wpList _ _ _ ({ dst := none, op := _, type := _, pos := _, after := _, guard := _ } :: _) _ _); refine wpList_set (g := g6) (j := 1) (v := .int .i64 (xa + (a.size : Int) + 1)) (cs' := lexC xk (xa + (a.size : Int) + 1) xs) rfl rfl (by kernel_rfl) rfl rfl rfl b7 (by rw [lexC_size]; omega) (by rfl) ?_; intro w8 ht8 b8; have own8 := ht8.own own7 hne6))
      rw [HYE.out] at b8
      have hc8 := blk_rowL b8
      have hb8 : Below wp3.heap.size wp3 w8 := ((hbw.out.trans (hb6.mono hbw.out.size)).trans (ht7.below _ HN6.out.1)).trans (ht8.below _ HN6.out.1)
      have hz8 := hb8.size
      clear own7 b7 b8 hc7 ht7 ht8 hb6 hbw
      go_wp2_with (first
              | ((with_reducible show wpList _ _ _ ({ dst := some 98, op := _, type := _, pos := _, after := _, guard := _ } :: _) _ _); refine wpList_loadK (us := lexL xk y xs) rfl rfl rfl aggLx (by rw [sizeLx]; rfl) hc8 ?_)
              | ((with_reducible show wpList _ _ _ ({ dst := some 99, op := _, type := _, pos := _, after := _, guard := _ } :: _) _ _); refine wpList_lit1Lx (k := xk) (x := y) (t := xs) rfl rfl rfl ?_; intro w9 g9 hr9 hb9; have own9 := ownsRow_below own8 hb9)
              | ((with_reducible show wpList _ _ _ ({ dst := some 100, op := _, type := _, pos := _, after := _, guard := _ } :: _) _ _); refine wpList_appK rfl rfl elemLx rfl own9 rfl (m := 1) hr9 (one_tokL ⟨xk, y, xs⟩) (by omega) (by have := hb9.size; omega) ?_; intro v10 w10 own10 hg10 hb10))
      have HBX : Hid (Below wp3.heap.size wp3 w10) := Lib.hid ((hb8.trans (hb9.mono hb8.size)).trans hb10)
      clear hb8 hb9 hb10 hg10 own8 own9 hr9 hc8
      refine ⟨⟨k + 1, by omega, by go_num, ?_, HBX⟩, by simp [intOf]; omega⟩
      rw [HNX.out, ← List.append_assoc, List.flatMap_append, ← Nat.add_assoc]
      simpa [shiftT, tokL, ← HYE.out, Int.add_assoc] using own10
    · obtain rfl : k = us.length := by omega
      rw [List.take_length, HXL.out] at ownA
      have HLX : Hid (ts.length + us.length = XL.length) := Lib.hid (by rw [← HXL.out]; simp)
      rw [HLX.out] at ownA
      obtain ⟨A11, e11, rfl, h11, h12, hr11⟩ := ownsRow_form ownA
      have HL4 : Hid (RdT wr A11 XL.length XL) := Lib.hid hr11
      have hbw' := hbw.out
      clear hr11 ownA hbw
      replace HG := Lib.hid (HG.out.below hbw')
      replace HL1 := Lib.hid (HL1.out.below hbw')
      replace HL2 := Lib.hid (HL2.out.below hbw')
      replace HL3 := Lib.hid (HL3.out.below hbw')
      replace HP3 := Lib.hid (HP3.out.below hbw')
      replace HB := Lib.hid (bstep HB.out hbw')
      clear hbw'
      have hl3 : XL.length ≤ 1099511627776 := by have := HLX.out; have := HL.out; omega
      go_wp2_with fail
      refine (sanity_any _ HG.out).mono ?_
      rintro e w12 ⟨rfl, hb12⟩
      replace HG := Lib.hid (HG.out.below hb12)
      replace HL3 := Lib.hid (HL3.out.below hb12)
      replace HP3 := Lib.hid (HP3.out.below hb12)
      replace HL4 := Lib.hid (HL4.out.below hb12)
      replace HB := Lib.hid (bstep HB.out hb12)
      clear hb12
      have q3 := blk_rowL (xs := [.int .i64 0, .int .i64 0]) HP3.out
      have he := eql_Pr (0, 0) (0, 0)
      rw [decide_eq_true rfl] at he
      go_wp2_with (first
              | ((with_reducible show wpList _ _ _ ({ dst := some 103, op := _, type := _, pos := _, after := _, guard := _ } :: _) _ _); refine wpList_loadKW (us := [.int .i64 0, .int .i64 0]) (by rfl) rfl rfl aggPr (by rw [sizePr]; rfl) q3 ?_)
              | ((with_reducible show wpList _ _ _ ({ dst := some 105, op := _, type := _, pos := _, after := _, guard := _ } :: _) _ _); refine wpList_opG he (by rfl) rfl rfl rfl (fun W => by kernel_rfl) ?_))
      clear q3 he
      have HEQ := equal_any XL XL A3 XL.length c3 A11 XL.length e11 w12 HL3.out HL4.out rfl rfl hl3 hl3
      rw [decide_eq_true rfl] at HEQ
      refine HEQ.mono ?_
      rintro e w13 ⟨rfl, hb13⟩
      clear HEQ
      replace HG := Lib.hid (HG.out.below hb13)
      replace HL3 := Lib.hid (HL3.out.below hb13)
      replace HP3 := Lib.hid (HP3.out.below hb13)
      replace HL4 := Lib.hid (HL4.out.below hb13)
      replace HB := Lib.hid (bstep HB.out hb13)
      clear hb13
      go_wp2_with fail
      go_ret
      exact ⟨rfl, HB.out⟩
theorem walkLexerIsLocal (a b : ByteArray) (w : World) (hg : GTab w) : Calls Tryz.prog 4 #[.string a, .string b] w (LawIs w) := by
  by_cases h : 2000 < a.size ∨ 2000 < b.size
  · exact loc_big a b w hg h
  · cases hA : tokens a.data.toList with
    | error p => exact loc_err1 a b p w hg (by omega) (by omega) hA
    | ok ts =>
      cases hB : tokens b.data.toList with
      | error p => exact loc_err2 a b ts p w hg (by omega) (by omega) hA hB
      | ok us => exact loc_ok a b ts us w hg (by omega) (by omega) hA hB
end Go.Proofs.YtiajmdmofjfdcaaGreatDoor
