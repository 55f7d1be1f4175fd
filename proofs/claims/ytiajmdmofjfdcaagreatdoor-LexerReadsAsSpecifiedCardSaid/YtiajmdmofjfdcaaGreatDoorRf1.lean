/-
  The law LexerReadsAsSpecified, walked. Conditions: the library's table of spaces stands.
-/
import Derived.Test.YtiajmdmofjfdcaaGreatDoorRd8
import Derived.Test.YtiajmdmofjfdcaaGreatDoorZt
namespace Go.Proofs.YtiajmdmofjfdcaaGreatDoor
set_option linter.unusedSimpArgs false
set_option linter.unusedVariables false
open Go.RowKit Lexr
def outT : Except (Int × Int) (List Tok) → List Tok
  | .error _ => []
  | .ok ts => ts
def outP : Except (Int × Int) (List Tok) → Int × Int
  | .error p => p
  | .ok _ => (0, 0)
theorem outT_len (l : List UInt8) : (outT (tokens l)).length ≤ 65536 := by
  cases h : tokens l with
  | error p => simp [outT]
  | ok ts => exact Nat.le_trans (tokens_len h) (tokens_size h)
/-- Tokens, whether there is a problem or not. -/
theorem tokens_gen (s : ByteArray) (w : World) (hs : s.size ≤ 1099511627776) (hg : GTab w) :
    Calls Tryz.prog 10 #[.string s] w fun e w' => ∃ A n c, e = .returned (.tuple #[.slice A n c, prV (outP (tokens s.data.toList))]) ∧ RdT w' A n (outT (tokens s.data.toList)) ∧ (outT (tokens s.data.toList)).length = n ∧ n ≤ c ∧ c ≤ maxLen ∧ Below w.heap.size w w' := by
  cases h : tokens s.data.toList with
  | error p => exact (tokens_bad w hs hg h).mono fun e w' ⟨h1, h2⟩ => ⟨none, 0, 0, h1, Rd.none_ w', rfl, Nat.le_refl _, Nat.zero_le _, h2⟩
  | ok ts => exact (tokens_ok w hs hg h).mono fun e w' ⟨A, c, h1, h3, h4, h5, _, h2⟩ => ⟨A, _, c, h1, h3, rfl, h4, h5, h2⟩
theorem refTokens_gen (s : ByteArray) (w : World) (hs : s.size ≤ 1099511627776) :
    Calls Tryz.prog 11 #[.string s] w fun e w' => ∃ A n c, e = .returned (.agg (rdC (.slice A n c) (outP (tokens s.data.toList)))) ∧ RdT w' A n (outT (tokens s.data.toList)) ∧ (outT (tokens s.data.toList)).length = n ∧ n ≤ c ∧ c ≤ maxLen ∧ Below w.heap.size w w' := by
  have h0 := refTokens_any s w hs
  cases h : tokens s.data.toList with
  | error p =>
    rw [h] at h0
    exact h0.mono fun e w' ⟨h1, h2⟩ => ⟨none, 0, 0, h1, Rd.none_ w', rfl, Nat.le_refl _, Nat.zero_le _, h2⟩
  | ok ts =>
    rw [h] at h0
    exact h0.mono fun e w' ⟨A, c, h1, h3, h4, h5, h2⟩ => ⟨A, _, c, h1, h3, rfl, h4, h5, h2⟩
def placeX (s : ByteArray) (x : Int) : Int × Int := if x < 0 ∨ (s.size : Int) < x then (0, 0) else placeP s x.toNat
theorem place_gen (s : ByteArray) (x : Int) (w : World) (hs : s.size ≤ 1099511627776) :
    Calls Tryz.prog 12 #[.string s, .int .i64 x] w fun e w' => e = .returned (.tuple #[.int .i64 (placeX s x).1, .int .i64 (placeX s x).2]) ∧ Below w.heap.size w w' := by
  unfold placeX
  by_cases h : x < 0 ∨ (s.size : Int) < x
  · rw [if_pos h]; exact place_bad s x w h
  · rw [if_neg h]
    obtain ⟨K, rfl⟩ : ∃ K : Nat, x = (K : Int) := ⟨x.toNat, by omega⟩
    exact place_any s K w (by omega) hs
theorem refPlace_gen (s : ByteArray) (x : Int) (w : World) (hs : s.size ≤ 1099511627776) :
    Calls Tryz.prog 13 #[.string s, .int .i64 x] w fun e w' => e = .returned (.agg (spC (placeX s x))) ∧ Below w.heap.size w w' := by
  unfold placeX
  by_cases h : x < 0 ∨ (s.size : Int) < x
  · rw [if_pos h]; exact refPlace_bad s x w h
  · rw [if_neg h]
    obtain ⟨K, rfl⟩ : ∃ K : Nat, x = (K : Int) := ⟨x.toNat, by omega⟩
    exact refPlace_any s K w (by omega) hs
set_option maxRecDepth 20000 in
set_option maxHeartbeats 4000000 in
theorem words_same (l : List (List UInt8)) (g1 g2 c d : Nat) (w : World) (h1 : Blk w g1 9 (strsC l)) (h2 : Blk w g2 9 (strsC l)) (n : Nat) (hn : l.length = n) (hn6 : n ≤ 65536) :
    Calls Tryz.prog 15 #[.slice (some ⟨g1, 0, none⟩) n c, .slice (some ⟨g2, 0, none⟩) n d] w fun e w' => e = .returned (.bool true) ∧ Below w.heap.size w w' := by
  have HN := Lib.hid hn
  have H1 := Lib.hid h1
  have H2 := Lib.hid h2
  have HX := Lib.hid (Below.refl w.heap.size w)
  have dn : ((n : Int) != n) = false := by simp
  clear hn h1 h2
  go_enter Tryz.func15, Tryz.ntmps15
  go_wp2_with fail
  go_loopw [5] (fun v5 wr => ∃ k : Nat, k ≤ n ∧ v5 = .int .i64 k ∧ Hid (Below w.heap.size w wr)) (fun v5 _ => n - (intOf v5).toNat)
  case atStart => exact ⟨0, Nat.zero_le _, rfl, HX⟩
  case round =>
    obtain ⟨k, hk, rfl, HW⟩ := hrel
    by_cases hlt : k < n
    · have hkl : k < l.length := by rw [HN.out]; exact hlt
      have e1 := strs_cell (H1.out.below HW.out) hkl
      have e2 := strs_cell (H2.out.below HW.out) hkl
      have he := neq_Bs l[k] l[k]
      rw [decide_eq_true rfl] at he
      generalize l[k] = x at *
      clear hkl
      go_upto_region 6 with fail
      refine wp_region_T 9 (by kernel_rfl) ?_
      -- region 6: 9 operations, tail from 9
      refine WpT.take (i := 0) rfl (by kernel_rfl) (fun _ _ _ h => h) (.inl ⟨by rfl, fun w hSw => by clear hSw; go_simp; (try go_bits); (try rw [if_pos (by omega)]); (try with_reducible rfl)⟩) ((Below.refl _ _).drew) ?_
      try simp only [Act.put, List.setIfInBounds_toArray, List.set_cons_zero, List.set_cons_succ]
      refine WpT.take (i := 1) rfl (by kernel_rfl) (fun _ _ _ h => h) (.inl ⟨by rfl, fun w hSw => by clear hSw; go_simp; (try go_bits); (try rw [if_pos (by omega)]); (try with_reducible rfl)⟩) ((Below.refl _ _).drew) ?_
      try simp only [Act.put, List.setIfInBounds_toArray, List.set_cons_zero, List.set_cons_succ]
      refine WpT.take (i := 2) rfl (by kernel_rfl) (fun _ _ _ h => h) (.inl ⟨by rfl, fun w hSw => by clear hSw; go_simp; (try go_bits); (try rw [if_pos (by omega)]); (try with_reducible rfl)⟩) ((Below.refl _ _).drew) ?_
      try simp only [Act.put, List.setIfInBounds_toArray, List.set_cons_zero, List.set_cons_succ]
      refine WpT.take (i := 3) rfl (by kernel_rfl) (fun _ _ _ h => h) (yields_load rfl rfl rfl (by kernel_rfl) e1) ((Below.refl _ _).drew) ?_
      try simp only [Act.put, List.setIfInBounds_toArray, List.set_cons_zero, List.set_cons_succ]
      refine WpT.take (i := 4) rfl (by kernel_rfl) (fun _ _ _ h => h) (.inl ⟨by rfl, fun w hSw => by clear hSw; go_simp; (try go_bits); (try rw [if_pos (by omega)]); (try with_reducible rfl)⟩) ((Below.refl _ _).drew) ?_
      try simp only [Act.put, List.setIfInBounds_toArray, List.set_cons_zero, List.set_cons_succ]
      refine WpT.take (i := 5) rfl (by kernel_rfl) (fun _ _ _ h => h) (.inl ⟨by rfl, fun w hSw => by clear hSw; go_simp; (try go_bits); (try rw [if_pos (by omega)]); (try with_reducible rfl)⟩) ((Below.refl _ _).drew) ?_
      try simp only [Act.put, List.setIfInBounds_toArray, List.set_cons_zero, List.set_cons_succ]
      refine WpT.take (i := 6) rfl (by kernel_rfl) (fun _ _ _ h => h) (.inl ⟨by rfl, fun w hSw => by clear hSw; go_simp; (try go_bits); (try rw [if_pos (by omega)]); (try with_reducible rfl)⟩) ((Below.refl _ _).drew) ?_
      try simp only [Act.put, List.setIfInBounds_toArray, List.set_cons_zero, List.set_cons_succ]
      refine WpT.take (i := 7) rfl (by kernel_rfl) (fun _ _ _ h => h) (yields_load rfl rfl rfl (by kernel_rfl) e2) ((Below.refl _ _).drew) ?_
      try simp only [Act.put, List.setIfInBounds_toArray, List.set_cons_zero, List.set_cons_succ]
      refine WpT.take (i := 8) rfl (by kernel_rfl) (fun _ _ _ h => h) (yields_opG he rfl rfl rfl rfl (fun W => by kernel_rfl)) ((Below.refl _ _).drew) ?_
      try simp only [Act.put, List.setIfInBounds_toArray, List.set_cons_zero, List.set_cons_succ]
      refine WpT.done (by kernel_rfl) ?_ _
      go_wp2_with fail
      exact ⟨⟨k + 1, by omega, by go_num, Lib.hid HW.out.drew⟩, by simp [intOf]; omega⟩
    · obtain rfl : k = n := by omega
      go_wp2_with fail
      go_ret
      exact ⟨rfl, HW.out⟩
theorem eql_bool (b : Bool) (W : World) : (binOp .eql 4 (.bool b) (.bool b)).run Tryz.prog W = .ok (.bool true) W := by cases b <;> kernel_rfl
set_option maxRecDepth 20000 in
set_option maxHeartbeats 4000000 in
theorem reads_mid (s : ByteArray) (x : Int) (w : World) (hg : GTab w) (h : 2000 < s.size ∧ s.size ≤ 65536) : Calls Tryz.prog 3 #[.string s, .int .i64 x] w (LawIs w) := by
  have HG := Lib.hid hg
  clear hg
  have d1 : decide ((2000 : Int) < (s.size : Int)) = true := by rw [decide_eq_true_eq]; omega
  have d1n : decide (2000 < s.size) = true := by rw [decide_eq_true_eq]; omega
  have d2 : decide ((s.size : Int) ≤ 65536) = true := by rw [decide_eq_true_eq]; omega
  have d2n : decide (s.size ≤ 65536) = true := by rw [decide_eq_true_eq]; omega
  have d3 : decide ((65636 : Int) < (s.size : Int)) = false := by rw [decide_eq_false_iff_not]; omega
  have d3n : decide (65636 < s.size) = false := by rw [decide_eq_false_iff_not]; omega
  clear h
  go_enter Tryz.func3, Tryz.ntmps3
  go_wp2_with fail
  refine (sanity_any _ HG.out).mono ?_
  rintro e w1 ⟨rfl, hb1⟩
  go_wp2_with fail
  go_ret
  exact ⟨rfl, hb1⟩
set_option maxRecDepth 20000 in
set_option maxHeartbeats 4000000 in
theorem reads_big (s : ByteArray) (x : Int) (w : World) (hg : GTab w) (h : 65636 < s.size) : Calls Tryz.prog 3 #[.string s, .int .i64 x] w (LawIs w) := by
  have HG := Lib.hid hg
  clear hg
  have d1 : decide ((2000 : Int) < (s.size : Int)) = true := by rw [decide_eq_true_eq]; omega
  have d1n : decide (2000 < s.size) = true := by rw [decide_eq_true_eq]; omega
  have d2 : decide ((s.size : Int) ≤ 65536) = false := by rw [decide_eq_false_iff_not]; omega
  have d2n : decide (s.size ≤ 65536) = false := by rw [decide_eq_false_iff_not]; omega
  have d3 : decide ((65636 : Int) < (s.size : Int)) = true := by rw [decide_eq_true_eq]; omega
  have d3n : decide (65636 < s.size) = true := by rw [decide_eq_true_eq]; omega
  clear h
  go_enter Tryz.func3, Tryz.ntmps3
  go_wp2_with fail
  refine (sanity_any _ HG.out).mono ?_
  rintro e w1 ⟨rfl, hb1⟩
  go_wp2_with fail
  go_ret
  exact ⟨rfl, hb1⟩
set_option maxRecDepth 20000 in
set_option maxHeartbeats 16000000 in
theorem reads_lo (s : ByteArray) (x : Int) (w : World) (hg : GTab w) (h : s.size ≤ 2000) : Calls Tryz.prog 3 #[.string s, .int .i64 x] w (LawIs w) := by
  have d1 : decide ((2000 : Int) < (s.size : Int)) = false := by rw [decide_eq_false_iff_not]; omega
  have d1n : decide (2000 < s.size) = false := by rw [decide_eq_false_iff_not]; omega
  have d3 : decide ((65636 : Int) < (s.size : Int)) = false := by rw [decide_eq_false_iff_not]; omega
  have d3n : decide (65636 < s.size) = false := by rw [decide_eq_false_iff_not]; omega
  have hs : s.size ≤ 1099511627776 := by omega
  have HTK := Lib.hid (fun W hg => tokens_gen s W hs hg)
  have HRT := Lib.hid (fun W => refTokens_gen s W hs)
  have HLN := Lib.hid (outT_len s.data.toList)
  have HPL := Lib.hid (fun W => place_gen s x W hs)
  have HRP := Lib.hid (fun W => refPlace_gen s x W hs)
  have HWD := Lib.hid (fun W hg => word_any s W hg)
  have HRW := Lib.hid (fun W => refWord_any s W)
  unfold WoIs at HWD HRW
  generalize tokens s.data.toList = X at *
  generalize placeX s x = PX at *
  generalize decide (s.data.toList ∈ wordsL) = V at *
  have he := eql_bool V
  have HG := Lib.hid hg
  have HB := Lib.hid (Below.refl w.heap.size w)
  clear hg h hs
  go_enter Tryz.func3, Tryz.ntmps3
  go_wp2_with fail
  refine (HTK.out _ HG.out).mono ?_
  rintro e w1 ⟨A1, n1, c1, rfl, hrd1, hn1, hc1, hm1, hb1⟩
  replace HG := Lib.hid (HG.out.below hb1)
  replace HB := Lib.hid (bstep HB.out hb1)
  clear hb1
  have HL1 : Hid (RdT w1 A1 n1 (outT X)) := Lib.hid hrd1
  have HN1 := Lib.hid (And.intro hn1 (And.intro hc1 hm1))
  clear hrd1 hn1 hc1 hm1
  go_wp2_with (first
    | ((with_reducible show wpList _ _ _ ({ dst := some 6, op := _, type := _, pos := _, after := _, guard := _ } :: _) _ _); refine wpList_new (cs := #[.int .i64 0, .int .i64 0]) rfl rfl zeroPr ?_; intro wn1 g1 hg1 bn1 hn1 lt1; have HK1 := Lib.hid hg1; clear hg1 lt1)
    | ((with_reducible show wpList _ _ _ ({ dst := none, op := _, type := _, pos := _, after := _, guard := _ } :: _) _ _); refine wpList_put (vs := prC (outP X)) rfl rfl rfl rfl bn1 rfl (by rw [sizePr]; rfl) (by simp [Value.oneCell', prC]) ?_; intro wp1 ht1 bp1))
  have hq1 := hn1.trans (ht1.below _ (by have := HK1.out; omega))
  clear bn1 hn1 ht1 HK1
  replace HG := Lib.hid (HG.out.below hq1)
  replace HL1 := Lib.hid (HL1.out.below hq1)
  replace HB := Lib.hid (bstep HB.out hq1)
  clear hq1
  have HP1 := Lib.hid bp1
  clear bp1
  refine (HRT.out _).mono ?_
  rintro e w2 ⟨A2, n2, c2, rfl, hrd2, hn2, hc2, hm2, hb2⟩
  replace HG := Lib.hid (HG.out.below hb2)
  replace HL1 := Lib.hid (HL1.out.below hb2)
  replace HP1 := Lib.hid (HP1.out.below hb2)
  replace HB := Lib.hid (bstep HB.out hb2)
  clear hb2
  have HL2 : Hid (RdT w2 A2 n2 (outT X)) := Lib.hid hrd2
  have HN2 := Lib.hid (And.intro hn2 (And.intro hc2 hm2))
  clear hrd2 hn2 hc2 hm2
  go_wp2_with (first
    | ((with_reducible show wpList _ _ _ ({ dst := some 7, op := _, type := _, pos := _, after := _, guard := _ } :: _) _ _); refine wpList_new (cs := rdC (.slice none 0 0) (0, 0)) rfl rfl zeroRd ?_; intro wn2 g2 hg2 bn2 hn2 lt2; have HK2 := Lib.hid hg2; clear hg2 lt2)
    | ((with_reducible show wpList _ _ _ ({ dst := none, op := _, type := _, pos := _, after := _, guard := _ } :: _) _ _); refine wpList_put (vs := rdC (.slice A2 n2 c2) (outP X)) rfl rfl rfl rfl bn2 rfl (by rw [sizeRd]; rfl) (one_rdC _ _ _ _) ?_; intro wp2 ht2 bp2))
  have hq2 := hn2.trans (ht2.below _ (by have := HK2.out; omega))
  clear bn2 hn2 ht2 HK2
  replace HG := Lib.hid (HG.out.below hq2)
  replace HL1 := Lib.hid (HL1.out.below hq2)
  replace HP1 := Lib.hid (HP1.out.below hq2)
  replace HL2 := Lib.hid (HL2.out.below hq2)
  replace HB := Lib.hid (bstep HB.out hq2)
  clear hq2
  have HP2 := Lib.hid bp2
  clear bp2
  refine (HPL.out _).mono ?_
  rintro e w3 ⟨rfl, hb3⟩
  replace HG := Lib.hid (HG.out.below hb3)
  replace HL1 := Lib.hid (HL1.out.below hb3)
  replace HP1 := Lib.hid (HP1.out.below hb3)
  replace HL2 := Lib.hid (HL2.out.below hb3)
  replace HP2 := Lib.hid (HP2.out.below hb3)
  replace HB := Lib.hid (bstep HB.out hb3)
  clear hb3
  go_wp2_with fail
  refine (HRP.out _).mono ?_
  rintro e w4 ⟨rfl, hb4⟩
  replace HG := Lib.hid (HG.out.below hb4)
  replace HL1 := Lib.hid (HL1.out.below hb4)
  replace HP1 := Lib.hid (HP1.out.below hb4)
  replace HL2 := Lib.hid (HL2.out.below hb4)
  replace HP2 := Lib.hid (HP2.out.below hb4)
  replace HB := Lib.hid (bstep HB.out hb4)
  clear hb4
  go_wp2_with (first
    | ((with_reducible show wpList _ _ _ ({ dst := some 10, op := _, type := _, pos := _, after := _, guard := _ } :: _) _ _); refine wpList_new (cs := spC (0, 0)) rfl rfl zeroSp ?_; intro wn3 g3 hg3 bn3 hn3 lt3; have HK3 := Lib.hid hg3; clear hg3 lt3)
    | ((with_reducible show wpList _ _ _ ({ dst := none, op := _, type := _, pos := _, after := _, guard := _ } :: _) _ _); refine wpList_put (vs := spC PX) rfl rfl rfl rfl bn3 rfl (by rw [sizeSp]; rfl) (one_spC _) ?_; intro wp3 ht3 bp3))
  have hq3 := hn3.trans (ht3.below _ (by have := HK3.out; omega))
  clear bn3 hn3 ht3 HK3
  replace HG := Lib.hid (HG.out.below hq3)
  replace HL1 := Lib.hid (HL1.out.below hq3)
  replace HP1 := Lib.hid (HP1.out.below hq3)
  replace HL2 := Lib.hid (HL2.out.below hq3)
  replace HP2 := Lib.hid (HP2.out.below hq3)
  replace HB := Lib.hid (bstep HB.out hq3)
  clear hq3
  have HP3 := Lib.hid bp3
  clear bp3
  refine (sanity_any _ HG.out).mono ?_
  rintro e w5 ⟨rfl, hb5⟩
  replace HG := Lib.hid (HG.out.below hb5)
  replace HL1 := Lib.hid (HL1.out.below hb5)
  replace HP1 := Lib.hid (HP1.out.below hb5)
  replace HL2 := Lib.hid (HL2.out.below hb5)
  replace HP2 := Lib.hid (HP2.out.below hb5)
  replace HP3 := Lib.hid (HP3.out.below hb5)
  replace HB := Lib.hid (bstep HB.out hb5)
  clear hb5
  have cL : w5.cell? ⟨g2, 0, none⟩ = some (.slice A2 n2 c2) := by rw [HP2.out.cell 0]; rfl
  go_wp2_with ((with_reducible show wpList _ _ _ ({ dst := some 45, op := _, type := _, pos := _, after := _, guard := _ } :: _) _ _); refine wpList_loadV (by rfl) rfl rfl (by kernel_rfl) cL ?_)
  have HEQ := equal_any (outT X) (outT X) A1 n1 c1 A2 n2 c2 w5 HL1.out HL2.out HN1.out.1 HN2.out.1 (by have := HLN.out; have := HN1.out.1; omega) (by have := HLN.out; have := HN2.out.1; omega)
  rw [decide_eq_true rfl] at HEQ
  clear cL
  refine HEQ.mono ?_
  rintro e w6 ⟨rfl, hb6⟩
  clear HEQ
  replace HG := Lib.hid (HG.out.below hb6)
  replace HL1 := Lib.hid (HL1.out.below hb6)
  replace HP1 := Lib.hid (HP1.out.below hb6)
  replace HL2 := Lib.hid (HL2.out.below hb6)
  replace HP2 := Lib.hid (HP2.out.below hb6)
  replace HP3 := Lib.hid (HP3.out.below hb6)
  replace HB := Lib.hid (bstep HB.out hb6)
  clear hb6
  have q1 := blk_rowL (xs := [.int .i64 (outP X).1, .int .i64 (outP X).2]) HP1.out
  have q2 : ∀ j u, ([.int .i64 (outP X).1, .int .i64 (outP X).2] : List Value)[j]? = some u → w6.cell? ((⟨g2, 1, none⟩ : Addr).add j) = some u := fun j u hj => by
    have e : (⟨g2, 1, none⟩ : Addr).add j = ⟨g2, 1 + j, none⟩ := by unfold Addr.add; split <;> simp_all
    rw [e, HP2.out.cell (1 + j)]
    match j, hj with
    | 0, hj => exact hj
    | 1, hj => exact hj
    | j + 2, hj => simp at hj
  have hp := eql_Pr (outP X) (outP X)
  rw [decide_eq_true rfl] at hp
  go_wp2_with (first
    | ((with_reducible show wpList _ _ _ ({ dst := some 49, op := _, type := _, pos := _, after := _, guard := _ } :: _) _ _); refine wpList_loadKW (us := [.int .i64 (outP X).1, .int .i64 (outP X).2]) (by rfl) rfl rfl aggPr (by rw [sizePr]; rfl) q1 ?_)
    | ((with_reducible show wpList _ _ _ ({ dst := some 51, op := _, type := _, pos := _, after := _, guard := _ } :: _) _ _); refine wpList_loadKW (us := [.int .i64 (outP X).1, .int .i64 (outP X).2]) (by rfl) rfl rfl aggPr (by rw [sizePr]; rfl) q2 ?_)
    | ((with_reducible show wpList _ _ _ ({ dst := some 52, op := _, type := _, pos := _, after := _, guard := _ } :: _) _ _); refine wpList_opG hp (by rfl) rfl rfl rfl (fun W => by kernel_rfl) ?_))
  clear q1 q2 hp
  refine (words_any _ HG.out).mono ?_
  rintro e w7 ⟨rfl, hw7⟩
  have hb7 : Below w6.heap.size w6 w7 := by rw [hw7]; exact (Below.refl _ _).alloc (Nat.le_refl _) _
  have HW7 : Hid (Blk w7 w6.heap.size 9 (strsC wordsL)) := Lib.hid (by rw [hw7]; exact Blk.new _ _ _)
  obtain ⟨g7, hg7⟩ : ∃ g, w6.heap.size = g := ⟨_, rfl⟩
  rw [hg7] at HW7 ⊢
  clear hw7
  replace HG := Lib.hid (HG.out.below hb7)
  replace HL1 := Lib.hid (HL1.out.below hb7)
  replace HP1 := Lib.hid (HP1.out.below hb7)
  replace HL2 := Lib.hid (HL2.out.below hb7)
  replace HP2 := Lib.hid (HP2.out.below hb7)
  replace HP3 := Lib.hid (HP3.out.below hb7)
  replace HB := Lib.hid (bstep HB.out hb7)
  clear hb7
  clear hg7
  go_wp2_with fail
  refine (refWords_any _).mono ?_
  rintro e w8 ⟨g8, rfl, bw8, hb8⟩
  replace HG := Lib.hid (HG.out.below hb8)
  replace HL1 := Lib.hid (HL1.out.below hb8)
  replace HP1 := Lib.hid (HP1.out.below hb8)
  replace HL2 := Lib.hid (HL2.out.below hb8)
  replace HP2 := Lib.hid (HP2.out.below hb8)
  replace HP3 := Lib.hid (HP3.out.below hb8)
  replace HW7 := Lib.hid (HW7.out.below hb8)
  replace HB := Lib.hid (bstep HB.out hb8)
  clear hb8
  have HW8 := Lib.hid bw8
  clear bw8
  go_wp2_with fail
  refine (words_same wordsL g7 g8 6 6 _ HW7.out HW8.out 6 rfl (by omega)).mono ?_
  rintro e w9 ⟨rfl, hb9⟩
  replace HG := Lib.hid (HG.out.below hb9)
  replace HL1 := Lib.hid (HL1.out.below hb9)
  replace HP1 := Lib.hid (HP1.out.below hb9)
  replace HL2 := Lib.hid (HL2.out.below hb9)
  replace HP2 := Lib.hid (HP2.out.below hb9)
  replace HP3 := Lib.hid (HP3.out.below hb9)
  replace HW7 := Lib.hid (HW7.out.below hb9)
  replace HW8 := Lib.hid (HW8.out.below hb9)
  replace HB := Lib.hid (bstep HB.out hb9)
  clear hb9
  go_wp2_with fail
  refine (HWD.out _ HG.out).mono ?_
  rintro e w10 ⟨rfl, hb10⟩
  replace HG := Lib.hid (HG.out.below hb10)
  replace HL1 := Lib.hid (HL1.out.below hb10)
  replace HP1 := Lib.hid (HP1.out.below hb10)
  replace HL2 := Lib.hid (HL2.out.below hb10)
  replace HP2 := Lib.hid (HP2.out.below hb10)
  replace HP3 := Lib.hid (HP3.out.below hb10)
  replace HW7 := Lib.hid (HW7.out.below hb10)
  replace HW8 := Lib.hid (HW8.out.below hb10)
  replace HB := Lib.hid (bstep HB.out hb10)
  clear hb10
  go_wp2_with fail
  refine (HRW.out _).mono ?_
  rintro e w11 ⟨rfl, hb11⟩
  replace HG := Lib.hid (HG.out.below hb11)
  replace HL1 := Lib.hid (HL1.out.below hb11)
  replace HP1 := Lib.hid (HP1.out.below hb11)
  replace HL2 := Lib.hid (HL2.out.below hb11)
  replace HP2 := Lib.hid (HP2.out.below hb11)
  replace HP3 := Lib.hid (HP3.out.below hb11)
  replace HW7 := Lib.hid (HW7.out.below hb11)
  replace HW8 := Lib.hid (HW8.out.below hb11)
  replace HB := Lib.hid (bstep HB.out hb11)
  clear hb11
  have c0 : w11.cell? ⟨g3, 0, none⟩ = some (.int .i64 PX.1) := by rw [HP3.out.cell 0]; rfl
  have c1 : w11.cell? ⟨g3, 1, none⟩ = some (.int .i64 PX.2) := by rw [HP3.out.cell 1]; rfl
  have k0 : (PX.1 == PX.1) = true := by simp
  have k1 : (PX.2 == PX.2) = true := by simp
  go_wp2_with (first
    | ((with_reducible show wpList _ _ _ ({ dst := some 64, op := _, type := _, pos := _, after := _, guard := _ } :: _) _ _); refine wpList_opG he (by rfl) rfl rfl rfl (fun W => by kernel_rfl) ?_)
    | ((with_reducible show wpList _ _ _ ({ dst := some 69, op := _, type := _, pos := _, after := _, guard := _ } :: _) _ _); refine wpList_loadV (by rfl) rfl rfl (by kernel_rfl) c0 ?_)
    | ((with_reducible show wpList _ _ _ ({ dst := some 75, op := _, type := _, pos := _, after := _, guard := _ } :: _) _ _); refine wpList_loadV (by rfl) rfl rfl (by kernel_rfl) c1 ?_))
  go_ret
  exact ⟨rfl, HB.out⟩
set_option maxRecDepth 20000 in
set_option maxHeartbeats 16000000 in
theorem reads_hi (s : ByteArray) (x : Int) (w : World) (hg : GTab w) (h : 65536 < s.size ∧ s.size ≤ 65636) : Calls Tryz.prog 3 #[.string s, .int .i64 x] w (LawIs w) := by
  have d1 : decide ((2000 : Int) < (s.size : Int)) = true := by rw [decide_eq_true_eq]; omega
  have d1n : decide (2000 < s.size) = true := by rw [decide_eq_true_eq]; omega
  have d2 : decide ((s.size : Int) ≤ 65536) = false := by rw [decide_eq_false_iff_not]; omega
  have d2n : decide (s.size ≤ 65536) = false := by rw [decide_eq_false_iff_not]; omega
  have d3 : decide ((65636 : Int) < (s.size : Int)) = false := by rw [decide_eq_false_iff_not]; omega
  have d3n : decide (65636 < s.size) = false := by rw [decide_eq_false_iff_not]; omega
  have hs : s.size ≤ 1099511627776 := by omega
  have HTK := Lib.hid (fun W hg => tokens_gen s W hs hg)
  have HRT := Lib.hid (fun W => refTokens_gen s W hs)
  have HLN := Lib.hid (outT_len s.data.toList)
  have HPL := Lib.hid (fun W => place_gen s x W hs)
  have HRP := Lib.hid (fun W => refPlace_gen s x W hs)
  have HWD := Lib.hid (fun W hg => word_any s W hg)
  have HRW := Lib.hid (fun W => refWord_any s W)
  unfold WoIs at HWD HRW
  generalize tokens s.data.toList = X at *
  generalize placeX s x = PX at *
  generalize decide (s.data.toList ∈ wordsL) = V at *
  have he := eql_bool V
  have HG := Lib.hid hg
  have HB := Lib.hid (Below.refl w.heap.size w)
  clear hg h hs
  go_enter Tryz.func3, Tryz.ntmps3
  go_wp2_with fail
  refine (HTK.out _ HG.out).mono ?_
  rintro e w1 ⟨A1, n1, c1, rfl, hrd1, hn1, hc1, hm1, hb1⟩
  replace HG := Lib.hid (HG.out.below hb1)
  replace HB := Lib.hid (bstep HB.out hb1)
  clear hb1
  have HL1 : Hid (RdT w1 A1 n1 (outT X)) := Lib.hid hrd1
  have HN1 := Lib.hid (And.intro hn1 (And.intro hc1 hm1))
  clear hrd1 hn1 hc1 hm1
  go_wp2_with (first
    | ((with_reducible show wpList _ _ _ ({ dst := some 6, op := _, type := _, pos := _, after := _, guard := _ } :: _) _ _); refine wpList_new (cs := #[.int .i64 0, .int .i64 0]) rfl rfl zeroPr ?_; intro wn1 g1 hg1 bn1 hn1 lt1; have HK1 := Lib.hid hg1; clear hg1 lt1)
    | ((with_reducible show wpList _ _ _ ({ dst := none, op := _, type := _, pos := _, after := _, guard := _ } :: _) _ _); refine wpList_put (vs := prC (outP X)) rfl rfl rfl rfl bn1 rfl (by rw [sizePr]; rfl) (by simp [Value.oneCell', prC]) ?_; intro wp1 ht1 bp1))
  have hq1 := hn1.trans (ht1.below _ (by have := HK1.out; omega))
  clear bn1 hn1 ht1 HK1
  replace HG := Lib.hid (HG.out.below hq1)
  replace HL1 := Lib.hid (HL1.out.below hq1)
  replace HB := Lib.hid (bstep HB.out hq1)
  clear hq1
  have HP1 := Lib.hid bp1
  clear bp1
  refine (HRT.out _).mono ?_
  rintro e w2 ⟨A2, n2, c2, rfl, hrd2, hn2, hc2, hm2, hb2⟩
  replace HG := Lib.hid (HG.out.below hb2)
  replace HL1 := Lib.hid (HL1.out.below hb2)
  replace HP1 := Lib.hid (HP1.out.below hb2)
  replace HB := Lib.hid (bstep HB.out hb2)
  clear hb2
  have HL2 : Hid (RdT w2 A2 n2 (outT X)) := Lib.hid hrd2
  have HN2 := Lib.hid (And.intro hn2 (And.intro hc2 hm2))
  clear hrd2 hn2 hc2 hm2
  go_wp2_with (first
    | ((with_reducible show wpList _ _ _ ({ dst := some 7, op := _, type := _, pos := _, after := _, guard := _ } :: _) _ _); refine wpList_new (cs := rdC (.slice none 0 0) (0, 0)) rfl rfl zeroRd ?_; intro wn2 g2 hg2 bn2 hn2 lt2; have HK2 := Lib.hid hg2; clear hg2 lt2)
    | ((with_reducible show wpList _ _ _ ({ dst := none, op := _, type := _, pos := _, after := _, guard := _ } :: _) _ _); refine wpList_put (vs := rdC (.slice A2 n2 c2) (outP X)) rfl rfl rfl rfl bn2 rfl (by rw [sizeRd]; rfl) (one_rdC _ _ _ _) ?_; intro wp2 ht2 bp2))
  have hq2 := hn2.trans (ht2.below _ (by have := HK2.out; omega))
  clear bn2 hn2 ht2 HK2
  replace HG := Lib.hid (HG.out.below hq2)
  replace HL1 := Lib.hid (HL1.out.below hq2)
  replace HP1 := Lib.hid (HP1.out.below hq2)
  replace HL2 := Lib.hid (HL2.out.below hq2)
  replace HB := Lib.hid (bstep HB.out hq2)
  clear hq2
  have HP2 := Lib.hid bp2
  clear bp2
  refine (HPL.out _).mono ?_
  rintro e w3 ⟨rfl, hb3⟩
  replace HG := Lib.hid (HG.out.below hb3)
  replace HL1 := Lib.hid (HL1.out.below hb3)
  replace HP1 := Lib.hid (HP1.out.below hb3)
  replace HL2 := Lib.hid (HL2.out.below hb3)
  replace HP2 := Lib.hid (HP2.out.below hb3)
  replace HB := Lib.hid (bstep HB.out hb3)
  clear hb3
  go_wp2_with fail
  refine (HRP.out _).mono ?_
  rintro e w4 ⟨rfl, hb4⟩
  replace HG := Lib.hid (HG.out.below hb4)
  replace HL1 := Lib.hid (HL1.out.below hb4)
  replace HP1 := Lib.hid (HP1.out.below hb4)
  replace HL2 := Lib.hid (HL2.out.below hb4)
  replace HP2 := Lib.hid (HP2.out.below hb4)
  replace HB := Lib.hid (bstep HB.out hb4)
  clear hb4
  go_wp2_with (first
    | ((with_reducible show wpList _ _ _ ({ dst := some 10, op := _, type := _, pos := _, after := _, guard := _ } :: _) _ _); refine wpList_new (cs := spC (0, 0)) rfl rfl zeroSp ?_; intro wn3 g3 hg3 bn3 hn3 lt3; have HK3 := Lib.hid hg3; clear hg3 lt3)
    | ((with_reducible show wpList _ _ _ ({ dst := none, op := _, type := _, pos := _, after := _, guard := _ } :: _) _ _); refine wpList_put (vs := spC PX) rfl rfl rfl rfl bn3 rfl (by rw [sizeSp]; rfl) (one_spC _) ?_; intro wp3 ht3 bp3))
  have hq3 := hn3.trans (ht3.below _ (by have := HK3.out; omega))
  clear bn3 hn3 ht3 HK3
  replace HG := Lib.hid (HG.out.below hq3)
  replace HL1 := Lib.hid (HL1.out.below hq3)
  replace HP1 := Lib.hid (HP1.out.below hq3)
  replace HL2 := Lib.hid (HL2.out.below hq3)
  replace HP2 := Lib.hid (HP2.out.below hq3)
  replace HB := Lib.hid (bstep HB.out hq3)
  clear hq3
  have HP3 := Lib.hid bp3
  clear bp3
  refine (sanity_any _ HG.out).mono ?_
  rintro e w5 ⟨rfl, hb5⟩
  replace HG := Lib.hid (HG.out.below hb5)
  replace HL1 := Lib.hid (HL1.out.below hb5)
  replace HP1 := Lib.hid (HP1.out.below hb5)
  replace HL2 := Lib.hid (HL2.out.below hb5)
  replace HP2 := Lib.hid (HP2.out.below hb5)
  replace HP3 := Lib.hid (HP3.out.below hb5)
  replace HB := Lib.hid (bstep HB.out hb5)
  clear hb5
  have cL : w5.cell? ⟨g2, 0, none⟩ = some (.slice A2 n2 c2) := by rw [HP2.out.cell 0]; rfl
  go_wp2_with ((with_reducible show wpList _ _ _ ({ dst := some 45, op := _, type := _, pos := _, after := _, guard := _ } :: _) _ _); refine wpList_loadV (by rfl) rfl rfl (by kernel_rfl) cL ?_)
  have HEQ := equal_any (outT X) (outT X) A1 n1 c1 A2 n2 c2 w5 HL1.out HL2.out HN1.out.1 HN2.out.1 (by have := HLN.out; have := HN1.out.1; omega) (by have := HLN.out; have := HN2.out.1; omega)
  rw [decide_eq_true rfl] at HEQ
  clear cL
  refine HEQ.mono ?_
  rintro e w6 ⟨rfl, hb6⟩
  clear HEQ
  replace HG := Lib.hid (HG.out.below hb6)
  replace HL1 := Lib.hid (HL1.out.below hb6)
  replace HP1 := Lib.hid (HP1.out.below hb6)
  replace HL2 := Lib.hid (HL2.out.below hb6)
  replace HP2 := Lib.hid (HP2.out.below hb6)
  replace HP3 := Lib.hid (HP3.out.below hb6)
  replace HB := Lib.hid (bstep HB.out hb6)
  clear hb6
  have q1 := blk_rowL (xs := [.int .i64 (outP X).1, .int .i64 (outP X).2]) HP1.out
  have q2 : ∀ j u, ([.int .i64 (outP X).1, .int .i64 (outP X).2] : List Value)[j]? = some u → w6.cell? ((⟨g2, 1, none⟩ : Addr).add j) = some u := fun j u hj => by
    have e : (⟨g2, 1, none⟩ : Addr).add j = ⟨g2, 1 + j, none⟩ := by unfold Addr.add; split <;> simp_all
    rw [e, HP2.out.cell (1 + j)]
    match j, hj with
    | 0, hj => exact hj
    | 1, hj => exact hj
    | j + 2, hj => simp at hj
  have hp := eql_Pr (outP X) (outP X)
  rw [decide_eq_true rfl] at hp
  go_wp2_with (first
    | ((with_reducible show wpList _ _ _ ({ dst := some 49, op := _, type := _, pos := _, after := _, guard := _ } :: _) _ _); refine wpList_loadKW (us := [.int .i64 (outP X).1, .int .i64 (outP X).2]) (by rfl) rfl rfl aggPr (by rw [sizePr]; rfl) q1 ?_)
    | ((with_reducible show wpList _ _ _ ({ dst := some 51, op := _, type := _, pos := _, after := _, guard := _ } :: _) _ _); refine wpList_loadKW (us := [.int .i64 (outP X).1, .int .i64 (outP X).2]) (by rfl) rfl rfl aggPr (by rw [sizePr]; rfl) q2 ?_)
    | ((with_reducible show wpList _ _ _ ({ dst := some 52, op := _, type := _, pos := _, after := _, guard := _ } :: _) _ _); refine wpList_opG hp (by rfl) rfl rfl rfl (fun W => by kernel_rfl) ?_))
  clear q1 q2 hp
  refine (words_any _ HG.out).mono ?_
  rintro e w7 ⟨rfl, hw7⟩
  have hb7 : Below w6.heap.size w6 w7 := by rw [hw7]; exact (Below.refl _ _).alloc (Nat.le_refl _) _
  have HW7 : Hid (Blk w7 w6.heap.size 9 (strsC wordsL)) := Lib.hid (by rw [hw7]; exact Blk.new _ _ _)
  obtain ⟨g7, hg7⟩ : ∃ g, w6.heap.size = g := ⟨_, rfl⟩
  rw [hg7] at HW7 ⊢
  clear hw7
  replace HG := Lib.hid (HG.out.below hb7)
  replace HL1 := Lib.hid (HL1.out.below hb7)
  replace HP1 := Lib.hid (HP1.out.below hb7)
  replace HL2 := Lib.hid (HL2.out.below hb7)
  replace HP2 := Lib.hid (HP2.out.below hb7)
  replace HP3 := Lib.hid (HP3.out.below hb7)
  replace HB := Lib.hid (bstep HB.out hb7)
  clear hb7
  clear hg7
  go_wp2_with fail
  refine (refWords_any _).mono ?_
  rintro e w8 ⟨g8, rfl, bw8, hb8⟩
  replace HG := Lib.hid (HG.out.below hb8)
  replace HL1 := Lib.hid (HL1.out.below hb8)
  replace HP1 := Lib.hid (HP1.out.below hb8)
  replace HL2 := Lib.hid (HL2.out.below hb8)
  replace HP2 := Lib.hid (HP2.out.below hb8)
  replace HP3 := Lib.hid (HP3.out.below hb8)
  replace HW7 := Lib.hid (HW7.out.below hb8)
  replace HB := Lib.hid (bstep HB.out hb8)
  clear hb8
  have HW8 := Lib.hid bw8
  clear bw8
  go_wp2_with fail
  refine (words_same wordsL g7 g8 6 6 _ HW7.out HW8.out 6 rfl (by omega)).mono ?_
  rintro e w9 ⟨rfl, hb9⟩
  replace HG := Lib.hid (HG.out.below hb9)
  replace HL1 := Lib.hid (HL1.out.below hb9)
  replace HP1 := Lib.hid (HP1.out.below hb9)
  replace HL2 := Lib.hid (HL2.out.below hb9)
  replace HP2 := Lib.hid (HP2.out.below hb9)
  replace HP3 := Lib.hid (HP3.out.below hb9)
  replace HW7 := Lib.hid (HW7.out.below hb9)
  replace HW8 := Lib.hid (HW8.out.below hb9)
  replace HB := Lib.hid (bstep HB.out hb9)
  clear hb9
  go_wp2_with fail
  refine (HWD.out _ HG.out).mono ?_
  rintro e w10 ⟨rfl, hb10⟩
  replace HG := Lib.hid (HG.out.below hb10)
  replace HL1 := Lib.hid (HL1.out.below hb10)
  replace HP1 := Lib.hid (HP1.out.below hb10)
  replace HL2 := Lib.hid (HL2.out.below hb10)
  replace HP2 := Lib.hid (HP2.out.below hb10)
  replace HP3 := Lib.hid (HP3.out.below hb10)
  replace HW7 := Lib.hid (HW7.out.below hb10)
  replace HW8 := Lib.hid (HW8.out.below hb10)
  replace HB := Lib.hid (bstep HB.out hb10)
  clear hb10
  go_wp2_with fail
  refine (HRW.out _).mono ?_
  rintro e w11 ⟨rfl, hb11⟩
  replace HG := Lib.hid (HG.out.below hb11)
  replace HL1 := Lib.hid (HL1.out.below hb11)
  replace HP1 := Lib.hid (HP1.out.below hb11)
  replace HL2 := Lib.hid (HL2.out.below hb11)
  replace HP2 := Lib.hid (HP2.out.below hb11)
  replace HP3 := Lib.hid (HP3.out.below hb11)
  replace HW7 := Lib.hid (HW7.out.below hb11)
  replace HW8 := Lib.hid (HW8.out.below hb11)
  replace HB := Lib.hid (bstep HB.out hb11)
  clear hb11
  have c0 : w11.cell? ⟨g3, 0, none⟩ = some (.int .i64 PX.1) := by rw [HP3.out.cell 0]; rfl
  have c1 : w11.cell? ⟨g3, 1, none⟩ = some (.int .i64 PX.2) := by rw [HP3.out.cell 1]; rfl
  have k0 : (PX.1 == PX.1) = true := by simp
  have k1 : (PX.2 == PX.2) = true := by simp
  go_wp2_with (first
    | ((with_reducible show wpList _ _ _ ({ dst := some 64, op := _, type := _, pos := _, after := _, guard := _ } :: _) _ _); refine wpList_opG he (by rfl) rfl rfl rfl (fun W => by kernel_rfl) ?_)
    | ((with_reducible show wpList _ _ _ ({ dst := some 69, op := _, type := _, pos := _, after := _, guard := _ } :: _) _ _); refine wpList_loadV (by rfl) rfl rfl (by kernel_rfl) c0 ?_)
    | ((with_reducible show wpList _ _ _ ({ dst := some 75, op := _, type := _, pos := _, after := _, guard := _ } :: _) _ _); refine wpList_loadV (by rfl) rfl rfl (by kernel_rfl) c1 ?_))
  go_ret
  exact ⟨rfl, HB.out⟩
theorem walkLexerReadsAsSpecified (s : ByteArray) (x : Int) (w : World) (hg : GTab w) : Calls Tryz.prog 3 #[.string s, .int .i64 x] w (LawIs w) := by
  by_cases h1 : s.size ≤ 2000
  · exact reads_lo s x w hg h1
  · by_cases h2 : s.size ≤ 65536
    · exact reads_mid s x w hg (by omega)
    · by_cases h3 : s.size ≤ 65636
      · exact reads_hi s x w hg (by omega)
      · exact reads_big s x w hg (by omega)
end Go.Proofs.YtiajmdmofjfdcaaGreatDoor
