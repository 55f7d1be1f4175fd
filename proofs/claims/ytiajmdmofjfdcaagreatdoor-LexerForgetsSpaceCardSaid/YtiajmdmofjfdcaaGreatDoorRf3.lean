/-
  The law LexerForgetsSpace, walked. Conditions: the library's table of spaces stands.
-/
import Derived.Test.YtiajmdmofjfdcaaGreatDoorRg2
namespace Go.Proofs.YtiajmdmofjfdcaaGreatDoor
set_option linter.unusedSimpArgs false
set_option linter.unusedVariables false
open Go.RowKit Lexr
theorem run_remI (k m : Nat) (hm : 0 < m) (W : World) : (binOp .rem 3 (.int .i64 (k : Int)) (.int .i64 (m : Int))).run Tryz.prog W = .ok (.int .i64 ((k % m : Nat) : Int)) W := by
  rw [binOp_rem]
  have h1 : ¬ m = 0 := by omega
  have h2 : (k : Int).tmod m = ((k % m : Nat) : Int) := by rw [Int.tmod_eq_emod_of_nonneg (by omega)]; omega
  simp [Op.intDiv, h1, h2]
/-- The gap ahead of a token. -/
def gapAt (gl : List ByteArray) (k : Nat) : List UInt8 := match gl[k % gl.length]? with
  | some g => g.data.toList
  | none => []
theorem gapAt_nil (k : Nat) : gapAt [] k = [] := rfl
theorem gapAt_some {gl : List ByteArray} {k : Nat} (h : k % gl.length < gl.length) : gapAt gl k = (gl[k % gl.length]).data.toList := by
  unfold gapAt
  rw [List.getElem?_eq_getElem h]
structure FgFacts (gl : List ByteArray) (ts : List Tok) (n : Nat) (us : List Tok) (J : List UInt8) : Prop where
  len : ts.length = n
  hn : n ≤ 2000
  all : allT ts = true
  txt : textP ts = (J, 0)
  tok : tokens J = .ok us
  nd : us.map nd = ts.map nd
  hJ : J.length ≤ 4000
  sm : ∀ k (h : k < ts.length), (wrt ts[k]).length ≤ 2000
  one : ∀ k (h : k < ts.length), textP [ts[k]] = (wrt ts[k], 0)
  step : ∀ k (h : k < ts.length), outT (gapAt gl) (ts.take (k + 1)) = outT (gapAt gl) (ts.take k) ++ gapAt gl k ++ [10] ++ wrt ts[k]
theorem mem_sum (ts : List Tok) : ∀ t ∈ ts, (wrt t).length ≤ (ts.map fun t => (wrt t).length).sum := by
  induction ts with
  | nil => simp
  | cons u r ih =>
    intro t ht
    rw [List.map_cons, List.sum_cons]
    rcases List.mem_cons.1 ht with rfl | ht
    · omega
    · have := ih t ht; omega
theorem fgFacts {L : List UInt8} {ts : List Tok} (gl : List ByteArray) (h : tokens L = .ok ts) (hL : L.length ≤ 2000) : ∃ us J, FgFacts gl ts ts.length us J := by
  obtain ⟨h1, h2, h3⟩ := cov_facts L ts 0 [] (Nat.zero_le _) (cov_tokens h)
  have h4 := sum_le ts h3
  have h5 := len_textJ ts
  obtain ⟨us, h6, h7⟩ := textJ_tokens ts h1 (by omega)
  have hsm : ∀ k (h : k < ts.length), (wrt ts[k]).length ≤ 2000 := fun k h => by have := mem_sum ts ts[k] (List.getElem_mem h); omega
  have hone : ∀ k (h : k < ts.length), isTok ts[k].kind ts[k].s = true := fun k h => by
    unfold allT at h1
    rw [List.all_eq_true] at h1
    exact h1 _ (List.getElem_mem h)
  refine ⟨us, textJ ts, rfl, by omega, h1, textP_ok h1 (by omega), h6, h7, by omega, hsm, fun k h => ?_, outT_snoc (gapAt gl) ts⟩
  have hs := hsm k h
  rw [← textJ_one, textP_ok]
  · show ([ts[k]].all _) = true
    rw [List.all_cons, hone k h]; rfl
  · rw [textJ_one]; omega
set_option maxRecDepth 20000 in
set_option maxHeartbeats 16000000 in
theorem walkLexerForgetsSpace (s : ByteArray) (B : Option Addr) (m d : Nat) (gl : List ByteArray) (w : World) (hmd : m ≤ d) (hdm : d ≤ maxLen) (hr : Rd w B m (sv gl)) (hl : gl.length = m) (hg : GTab w) : Calls Tryz.prog 7 #[.string s, .slice B m d] w (LawIs w) := by
  have HG := Lib.hid hg
  have HRG := Lib.hid hr
  have HLG := Lib.hid hl
  have hd9 : d ≤ 9223372036854775807 := hdm
  have hm9 : m ≤ 9223372036854775807 := Nat.le_trans hmd hd9
  clear hg hr hl hdm hd9
  by_cases hbig : 2000 < s.size
  · have d1 : decide ((2000 : Int) < (s.size : Int)) = true := by rw [decide_eq_true_eq]; omega
    have d1n : decide (2000 < s.size) = true := by rw [decide_eq_true_eq]; omega
    clear hbig
    go_enter Tryz.func7, Tryz.ntmps7
    go_wp2_with fail
    refine (sanity_any _ HG.out).mono ?_
    rintro e w9 ⟨rfl, hb9⟩
    go_wp2_with fail
    go_ret
    exact ⟨rfl, hb9⟩
  have d1 : decide ((2000 : Int) < (s.size : Int)) = false := by rw [decide_eq_false_iff_not]; omega
  have d1n : decide (2000 < s.size) = false := by rw [decide_eq_false_iff_not]; omega
  have hs : s.size ≤ 1099511627776 := by omega
  have HS : Hid (s.size ≤ 2000) := Lib.hid (by omega)
  clear hbig
  by_cases hmany : 20 < m
  · have d2 : decide ((20 : Int) < (m : Int)) = true := by rw [decide_eq_true_eq]; omega
    have d2n : decide (20 < m) = true := by rw [decide_eq_true_eq]; omega
    clear hmany
    go_enter Tryz.func7, Tryz.ntmps7
    go_wp2_with fail
    refine (sanity_any _ HG.out).mono ?_
    rintro e w9 ⟨rfl, hb9⟩
    go_wp2_with fail
    go_ret
    exact ⟨rfl, hb9⟩
  have d2 : decide ((20 : Int) < (m : Int)) = false := by rw [decide_eq_false_iff_not]; omega
  have d2n : decide (20 < m) = false := by rw [decide_eq_false_iff_not]; omega
  have hm20 : m ≤ 20 := by omega
  clear hmany hm9
  cases h : tokens s.data.toList with
  | error p =>
    have HH := Lib.hid h
    have hp0 : (p.2 != 0) = true := by simpa using tokens_err h
    clear h
    go_enter Tryz.func7, Tryz.ntmps7
    go_wp2_with fail
    refine (tokens_bad _ hs HG.out HH.out).mono ?_
    rintro e w1 ⟨rfl, hb1⟩
    go_upto_region 4 with (first
      | ((with_reducible show wpList _ _ _ ({ dst := some 6, op := _, type := _, pos := _, after := _, guard := _ } :: _) _ _); refine wpList_new (cs := #[.int .i64 0, .int .i64 0]) rfl rfl zeroPr ?_; intro wn1 g1 hg1 bn1 hn1 lt1; have HN1 := Lib.hid hg1; clear hg1 lt1)
      | ((with_reducible show wpList _ _ _ ({ dst := none, op := _, type := _, pos := _, after := _, guard := _ } :: _) _ _); refine wpList_put (vs := prC p) rfl rfl rfl rfl bn1 rfl (by rw [sizePr]; rfl) (by simp [Value.oneCell', prC]) ?_; intro wp1 ht1 bp1))
    have c1 : wp1.cell? ⟨g1, 1, none⟩ = some (.int .i64 p.2) := by have := bp1.cell 1; simpa [prC] using this
    have HW : Hid (Below w.heap.size w wp1) := Lib.hid ((bstep hb1 hn1).trans (ht1.below _ (by have := HN1.out; have := hb1.size; omega)))
    clear bn1 hn1 ht1 bp1 hb1
    go_wp2_with ((with_reducible show wpList _ _ _ ({ dst := some 33, op := _, type := _, pos := _, after := _, guard := _ } :: _) _ _); refine wpList_loadV (by rfl) rfl rfl (by kernel_rfl) c1 ?_)
    refine (sanity_any _ (HG.out.below HW.out)).mono ?_
    rintro e w9 ⟨rfl, hb9⟩
    go_wp2_with fail
    go_ret
    exact ⟨rfl, bstep HW.out hb9⟩
  | ok ts =>
    obtain ⟨us, J, hF⟩ := fgFacts gl h (by rw [list_size]; exact HS.out)
    obtain ⟨n, hn⟩ : ∃ n, ts.length = n := ⟨_, rfl⟩
    rw [hn] at hF
    obtain ⟨q, hq⟩ : ∃ q, us.length = q := ⟨_, rfl⟩
    have HF := Lib.hid hF
    have hq2 : q ≤ 4000 := by have := tokens_len hF.tok; have := hF.hJ; omega
    have HSM : Hid (∀ t ∈ ts, t.s.length ≤ 32768) := Lib.hid (fun t ht => by
      obtain ⟨k, hk, rfl⟩ := List.getElem_of_mem ht
      have := tok_small (hF.sm k hk)
      omega)
    have HT := Lib.hid (fun W (hg : GTab W) => tokens_okN s ts n W hs hg h hn)
    have HTX := Lib.hid (fun A c W hg hr => text_all ts A n c W hg hr hF.len (by have := hF.hn; omega) HSM.out)
    rw [hF.txt] at HTX
    dsimp only at HTX
    have HTJ := Lib.hid (fun W (hg : GTab W) => tokens_okN ⟨J.toArray⟩ us q W (by rw [bts_size]; have := hF.hJ; omega) hg (by rw [bts_list]; exact hF.tok) hq)
    have HQ := Lib.hid hq
    have hn2 := hF.hn
    clear h hF hn hq
    go_enter Tryz.func7, Tryz.ntmps7
    go_wp2_with fail
    refine (HT.out _ HG.out).mono ?_
    rintro e w1 ⟨A, c, rfl, hrd, hc1, hc2, hb1⟩
    have HR := Lib.hid hrd
    have HW1 := Lib.hid hb1
    have HGW : Hid (∀ W, Below w1.heap.size w1 W → GTab W) := Lib.hid (fun W hW => HG.out.below (bstep HW1.out hW))
    have HB0 : Hid (Below w1.heap.size w1 w1) := Lib.hid (Below.refl _ _)
    clear hrd HT hb1
    go_upto_region 4 with (first
      | ((with_reducible show wpList _ _ _ ({ dst := some 6, op := _, type := _, pos := _, after := _, guard := _ } :: _) _ _); refine wpList_new (cs := #[.int .i64 0, .int .i64 0]) rfl rfl zeroPr ?_; intro wn1 g1 hg1 bn1 hn1 lt1; have HN1 := Lib.hid hg1; clear hg1 lt1)
      | ((with_reducible show wpList _ _ _ ({ dst := none, op := _, type := _, pos := _, after := _, guard := _ } :: _) _ _); refine wpList_put (vs := prC (0, 0)) rfl rfl rfl rfl bn1 rfl (by rw [sizePr]; rfl) (by simp [Value.oneCell', prC]) ?_; intro wp1 ht1 bp1))
    have c1 : wp1.cell? ⟨g1, 1, none⟩ = some (.int .i64 0) := by have := bp1.cell 1; simpa [prC] using this
    have hq1 := hn1.trans (ht1.below _ (by have := HN1.out; omega))
    clear bn1 hn1 ht1 HN1
    have HW2 : Hid (Below w1.heap.size w1 wp1) := Lib.hid hq1
    clear hq1 bp1
    go_wp2_with ((with_reducible show wpList _ _ _ ({ dst := some 33, op := _, type := _, pos := _, after := _, guard := _ } :: _) _ _); refine wpList_loadV (by rfl) rfl rfl (by kernel_rfl) c1 ?_)
    clear c1
    refine (HTX.out A c _ (HGW.out _ HW2.out) (HR.out.below HW2.out)).mono ?_
    rintro e w3 ⟨rfl, hb3⟩
    have HW3 := Lib.hid (bstep HW2.out hb3)
    clear hb3
    go_wp2_with fail
    refine (HTJ.out _ (HGW.out _ HW3.out)).mono ?_
    rintro e w4 ⟨A4, c4, rfl, hrd4, hc4, hm4, hb4⟩
    have HW4 := Lib.hid (bstep HW3.out hb4)
    have HR4 := Lib.hid hrd4
    clear hb4 hrd4
    go_upto_region 8 with (first
      | ((with_reducible show wpList _ _ _ ({ dst := some 10, op := _, type := _, pos := _, after := _, guard := _ } :: _) _ _); refine wpList_new (cs := #[.int .i64 0, .int .i64 0]) rfl rfl zeroPr ?_; intro wn2 g2 hg2 bn2 hn2 lt2; have HN2 := Lib.hid hg2; clear hg2 lt2)
      | ((with_reducible show wpList _ _ _ ({ dst := none, op := _, type := _, pos := _, after := _, guard := _ } :: _) _ _); refine wpList_put (vs := prC (0, 0)) rfl rfl rfl rfl bn2 rfl (by rw [sizePr]; rfl) (by simp [Value.oneCell', prC]) ?_; intro wp2 ht2 bp2))
    have c2 : wp2.cell? ⟨g2, 1, none⟩ = some (.int .i64 0) := by have := bp2.cell 1; simpa [prC] using this
    have hq2 := hn2.trans (ht2.below _ (by have := HN2.out; omega))
    clear bn2 hn2 ht2 HN2
    have HW5 : Hid (Below w1.heap.size w1 wp2) := Lib.hid (bstep HW4.out hq2)
    have HSA := Lib.hid (same_any ts us A n c A4 q c4 wp2 (HR.out.below HW5.out) (HR4.out.below hq2) HF.out.len HQ.out (by omega) (by omega))
    rw [decide_eq_true HF.out.nd.symm] at HSA
    clear hq2 bp2
    go_wp2_with ((with_reducible show wpList _ _ _ ({ dst := some 50, op := _, type := _, pos := _, after := _, guard := _ } :: _) _ _); refine wpList_loadV (by rfl) rfl rfl (by kernel_rfl) c2 ?_)
    clear c2
    refine HSA.out.mono ?_
    rintro e w6 ⟨rfl, hb6⟩
    have HX6 : Hid (Below w1.heap.size w1 w6) := Lib.hid (bstep HW5.out hb6)
    clear hb6
    go_wp2_with fail
    go_loopw [11, 12, 13, 14, 15] (fun v11 v12 _ _ _ wl => ∃ k : Nat, k ≤ n ∧ v12 = .int .i64 k ∧ Own wl w1.heap.size 5 v11 (bv (outT (gapAt gl) (ts.take k))) ∧ Hid (∀ j, j < k → tokens (gapAt gl j) = .ok []) ∧ Hid ((outT (gapAt gl) (ts.take k)).length ≤ k * 2101) ∧ Hid (Below w1.heap.size w1 wl)) (fun _ v12 _ _ _ _ => n - (intOf v12).toNat)
    case atStart => exact ⟨0, Nat.zero_le _, rfl, Own.nil _ _ _, Lib.hid (fun j hj => absurd hj (Nat.not_lt_zero _)), Lib.hid (Nat.zero_le _), HX6⟩
    case round =>
      clear HX6 HSA HTJ HTX
      obtain ⟨k, hk, rfl, hown, HGA, HLO, HW⟩ := hrel
      obtain ⟨Ao, no, co, rfl, HNO, hnc, hcm, hrd⟩ := hown.formN
      have HOW := Lib.hid hown
      have HRD := Lib.hid hrd
      obtain ⟨D, hD⟩ : ∃ D, outT (gapAt gl) (ts.take k) = D := ⟨_, rfl⟩
      rw [hD] at HOW HRD HLO HNO
      have HNE : Hid (no = D.length) := Lib.hid (by have := HNO.out; rwa [length_bv] at this)
      have HDL : Hid (D.length ≤ 4202000) := Lib.hid (by have := HLO.out; have : k * 2101 ≤ 2000 * 2101 := Nat.mul_le_mul_right _ (by omega); omega)
      have HDD := Lib.hid hD
      clear hown hrd hnc hcm HNO hD
      by_cases hlt : k < n
      · have hkl : k < ts.length := by rw [HF.out.len]; exact hlt
        obtain ⟨ad, rfl, -⟩ := RdT.get HR.out hkl
        have HC1 : Hid (∀ W, Below w1.heap.size w1 W → RdT W (some (ad.add (k * 3))) 1 [ts[k]]) := Lib.hid (fun W hW => rd_one rfl (HR.out.below hW) hkl)
        have hsm := HF.out.sm k hkl
        have HTX := Lib.hid (fun cc W hW => text_all [ts[k]] (some (ad.add (k * 3))) 1 cc W (HGW.out W hW) (HC1.out W hW) rfl (by omega) (by intro u hu; rw [List.mem_singleton] at hu; subst hu; have := tok_small hsm; omega))
        rw [HF.out.one k hkl] at HTX
        dsimp only at HTX
        have HST := Lib.hid (HF.out.step k hkl)
        rw [HDD.out] at HST
        obtain ⟨X, hX⟩ : ∃ X, wrt ts[k] = X := ⟨_, rfl⟩
        rw [hX] at HTX HST hsm
        have HXL := Lib.hid hsm
        clear hX hsm HC1 HF
        by_cases hm0 : 0 < m
        · have dm : decide ((0 : Int) < (m : Int)) = true := by rw [decide_eq_true_eq]; omega
          have dmn : decide (0 < m) = true := by rw [decide_eq_true_eq]; omega
          have hjm : k % m < m := Nat.mod_lt _ hm0
          have hrem := run_remI k m hm0
          have hga : gapAt gl k = (gl[k % m]'(by rw [HLG.out]; exact hjm)).data.toList := by
            have := HLG.out
            subst this
            exact gapAt_some hjm
          obtain ⟨bd, rfl, hcb⟩ := Rd.str (HRG.out.below (bstep HW1.out HW.out)) hjm HLG.out
          obtain ⟨j, hj⟩ : ∃ j, k % m = j := ⟨_, rfl⟩
          have hgg : ∃ G, gl[k % m]'(by rw [HLG.out]; exact hjm) = G := ⟨_, rfl⟩
          obtain ⟨G, hG⟩ := hgg
          rw [hG] at hga hcb
          rw [hj] at hrem hcb hjm
          rw [hga] at HST
          have HGA1 := Lib.hid hga
          clear hj hG hga hm0
          go_upto_region 16 with (first
            | ((with_reducible show wpList _ _ _ ({ dst := some 72, op := _, type := _, pos := _, after := _, guard := _ } :: _) _ _); refine wpList_opG hrem (by rfl) rfl rfl rfl (fun W => by kernel_rfl) ?_)
            | ((with_reducible show wpList _ _ _ ({ dst := some 74, op := _, type := _, pos := _, after := _, guard := _ } :: _) _ _); refine wpList_loadV (by rfl) rfl rfl (by kernel_rfl) hcb ?_))
          by_cases h100 : 100 < G.size
          · have dg : decide ((100 : Int) < (G.size : Int)) = true := by rw [decide_eq_true_eq]; omega
            have dgn : decide (100 < G.size) = true := by rw [decide_eq_true_eq]; omega
            clear h100
            go_wp2_with fail
            refine (sanity_any _ (HGW.out _ HW.out)).mono ?_
            rintro e w9 ⟨rfl, hb9⟩
            go_wp2_with fail
            go_ret
            exact ⟨rfl, bstep HW1.out (bstep HW.out hb9)⟩
          · have dg : decide ((100 : Int) < (G.size : Int)) = false := by rw [decide_eq_false_iff_not]; omega
            have dgn : decide (100 < G.size) = false := by rw [decide_eq_false_iff_not]; omega
            have HGZ : Hid (G.size ≤ 100) := Lib.hid (by omega)
            clear h100
            go_wp2_with fail
            have hbl := blank_any G _ (by have := HGZ.out; omega) (HGW.out _ HW.out)
            cases hbb : blankB G.data.toList with
            | false =>
              rw [hbb] at hbl
              clear hbb
              refine hbl.mono ?_
              rintro e w8 ⟨rfl, hb8⟩
              have HW8 := Lib.hid (bstep HW.out hb8)
              go_wp2_with fail
              refine (sanity_any _ (HGW.out _ HW8.out)).mono ?_
              rintro e w9 ⟨rfl, hb9⟩
              go_wp2_with fail
              go_ret
              exact ⟨rfl, bstep HW1.out (bstep HW8.out hb9)⟩
            | true =>
              rw [hbb] at hbl
              have HGN : Hid (∀ i, i < k + 1 → tokens (gapAt gl i) = .ok []) := Lib.hid (fun i hi => by
                by_cases e : i = k
                · subst e; rw [HGA1.out]; exact blankB_iff.1 hbb
                · exact HGA.out i (by omega))
              have HZN : Hid ((D ++ G.data.toList).length + 2001 ≤ (k + 1) * 2101) := Lib.hid (by rw [List.length_append, list_size]; have := HLO.out; have := HGZ.out; omega)
              have HZL : Hid ((D ++ G.data.toList).length ≤ 4204000) := Lib.hid (by rw [List.length_append, list_size]; have := HDL.out; have := HGZ.out; omega)
              clear hbb
              refine hbl.mono ?_
              rintro e w8 ⟨rfl, hb8⟩
              have HW8 := Lib.hid (bstep HW.out hb8)
              have HO8 := Lib.hid (Own.below HOW.out hb8)
              clear hb8 hbl
              go_wp2_with (first
                | ((with_reducible show wpList _ _ _ ({ dst := some 86, op := _, type := _, pos := _, after := _, guard := _ } :: _) _ _); refine wpList_appSt (v := .slice Ao no co) rfl rfl rfl HO8.out rfl (by rw [length_bv]; have := HDL.out; have := HGZ.out; omega) (by have := HW8.out.size; omega) ?_; intro v7 w7 o7 hb7; rw [← bv_append] at o7; have HO7 := Lib.hid o7; obtain ⟨A7, n7, c7, rfl, -, -, -, -⟩ := o7.formN; have HW7 : Hid (Below w1.heap.size w1 w7) := Lib.hid (HW8.out.trans hb7); clear o7 hb7)
                | ((with_reducible show wpList _ _ _ ({ dst := some 92, op := _, type := _, pos := _, after := _, guard := _ } :: _) _ _); refine wpList_oneT (by rfl) rfl rfl rfl (by go_num) hlt hc1 ?_; intro c'))
              refine (HTX.out c' _ HW7.out).mono ?_
              rintro e zz2 ⟨rfl, hbu2⟩
              have HU2 := Lib.hid (bstep HW7.out hbu2)
              have HO2 := Lib.hid (Own.below HO7.out hbu2)
              clear hbu2
              go_wp2_with (first
                | ((with_reducible show wpList _ _ _ ({ dst := some 99, op := _, type := _, pos := _, after := _, guard := _ } :: _) _ _); refine wpList_lit1By 10 rfl rfl rfl ?_; intro zz3 g3 hr3 hb3)
                | ((with_reducible show wpList _ _ _ ({ dst := some 100, op := _, type := _, pos := _, after := _, guard := _ } :: _) _ _); refine wpList_app (v := .slice A7 n7 c7) rfl rfl elemBytes rfl (Own.below HO2.out hb3) rfl hr3 (oneCell_bv _) (by rw [length_bv]; have := HZL.out; omega) (by have := HU2.out.size; have := hb3.size; omega) ?_; intro v4 zz4 o4 _ hb4 _; have HO4 := Lib.hid o4; obtain ⟨A5, n5, c5, rfl, -, -, -, -⟩ := o4.formN; have HU4 : Hid (Below w1.heap.size w1 zz4) := Lib.hid ((HU2.out.trans (hb3.mono HU2.out.size)).trans hb4); clear o4 hb4 hb3 hr3)
                | ((with_reducible show wpList _ _ _ ({ dst := some 102, op := _, type := _, pos := _, after := _, guard := _ } :: _) _ _); refine wpList_appSt (v := .slice A5 n5 c5) rfl rfl rfl HO4.out rfl (by rw [List.length_append, length_bv, length_bv, bts_size]; have := HZL.out; have := HXL.out; simp only [List.length_cons, List.length_nil]; omega) (by have := HU4.out.size; omega) ?_; intro v6 zz6 o6 hb6))
              try rw [bts_list] at o6
              rw [← bv_append, ← bv_append] at o6
              exact ⟨⟨k + 1, by omega, by go_num, by rw [HST.out]; exact o6, HGN, Lib.hid (by rw [HST.out, List.length_append, List.length_append]; have := HZN.out; have := HXL.out; simp only [List.length_cons, List.length_nil]; omega), Lib.hid (HU4.out.trans hb6)⟩, by simp [intOf]; omega⟩
        · have hg0 : gl = [] := List.eq_nil_of_length_eq_zero (by rw [HLG.out]; omega)
          have dm : decide ((0 : Int) < (m : Int)) = false := by rw [decide_eq_false_iff_not]; omega
          have dmn : decide (0 < m) = false := by rw [decide_eq_false_iff_not]; omega
          have HGN : Hid (∀ i, i < k + 1 → tokens (gapAt gl i) = .ok []) := Lib.hid (fun i hi => by rw [hg0, gapAt_nil]; rfl)
          have hgk : gapAt gl k = [] := by rw [hg0]; rfl
          rw [hgk, List.append_nil] at HST
          have HZN : Hid (D.length + 2001 ≤ (k + 1) * 2101) := Lib.hid (by have := HLO.out; omega)
          have HZL : Hid (D.length ≤ 4204000) := Lib.hid (by have := HDL.out; omega)
          clear hm0 hg0 hgk
          go_wp2_with ((with_reducible show wpList _ _ _ ({ dst := some 92, op := _, type := _, pos := _, after := _, guard := _ } :: _) _ _); refine wpList_oneT (by rfl) rfl rfl rfl (by go_num) hlt hc1 ?_; intro c')
          refine (HTX.out c' _ HW.out).mono ?_
          rintro e zz2 ⟨rfl, hbu2⟩
          have HU2 := Lib.hid (bstep HW.out hbu2)
          have HO2 := Lib.hid (Own.below HOW.out hbu2)
          clear hbu2
          go_wp2_with (first
            | ((with_reducible show wpList _ _ _ ({ dst := some 99, op := _, type := _, pos := _, after := _, guard := _ } :: _) _ _); refine wpList_lit1By 10 rfl rfl rfl ?_; intro zz3 g3 hr3 hb3)
            | ((with_reducible show wpList _ _ _ ({ dst := some 100, op := _, type := _, pos := _, after := _, guard := _ } :: _) _ _); refine wpList_app (v := .slice Ao no co) rfl rfl elemBytes rfl (Own.below HO2.out hb3) rfl hr3 (oneCell_bv _) (by rw [length_bv]; have := HZL.out; omega) (by have := HU2.out.size; have := hb3.size; omega) ?_; intro v4 zz4 o4 _ hb4 _; have HO4 := Lib.hid o4; obtain ⟨A5, n5, c5, rfl, -, -, -, -⟩ := o4.formN; have HU4 : Hid (Below w1.heap.size w1 zz4) := Lib.hid ((HU2.out.trans (hb3.mono HU2.out.size)).trans hb4); clear o4 hb4 hb3 hr3)
            | ((with_reducible show wpList _ _ _ ({ dst := some 102, op := _, type := _, pos := _, after := _, guard := _ } :: _) _ _); refine wpList_appSt (v := .slice A5 n5 c5) rfl rfl rfl HO4.out rfl (by rw [List.length_append, length_bv, length_bv, bts_size]; have := HZL.out; have := HXL.out; simp only [List.length_cons, List.length_nil]; omega) (by have := HU4.out.size; omega) ?_; intro v6 zz6 o6 hb6))
          try rw [bts_list] at o6
          rw [← bv_append, ← bv_append] at o6
          exact ⟨⟨k + 1, by omega, by go_num, by rw [HST.out]; exact o6, HGN, Lib.hid (by rw [HST.out, List.length_append, List.length_append]; have := HZN.out; have := HXL.out; simp only [List.length_cons, List.length_nil]; omega), Lib.hid (HU4.out.trans hb6)⟩, by simp [intOf]; omega⟩
      · obtain rfl : k = n := by omega
        have hfull : ts.take k = ts := by rw [← HF.out.len, List.take_length]
        have hDD := HDD.out
        rw [hfull] at hDD
        have HGT : Hid (∀ i < ts.length, tokens (gapAt gl i) = .ok []) := Lib.hid (fun i hi => HGA.out i (by rw [← HF.out.len]; exact hi))
        have hz1 : (⟨D.toArray⟩ : ByteArray).size ≤ 1099511627776 := by rw [bts_size]; have := HDL.out; omega
        have HZ1 := Lib.hid hz1
        clear hz1 hfull HLO
        by_cases h6 : 65536 < D.length
        · have d6 : decide ((65536 : Int) < (no : Int)) = true := by rw [decide_eq_true_eq]; have := HNE.out; omega
          have d6n : decide (65536 < no) = true := by rw [decide_eq_true_eq]; have := HNE.out; omega
          have HTB := Lib.hid (fun W hg => tokens_bad (s := ⟨D.toArray⟩) W HZ1.out hg (by rw [bts_list]; exact tokens_big h6))
          clear h6 hDD
          go_wp2_with ((with_reducible show wpList _ _ _ ({ dst := some 105, op := _, type := _, pos := _, after := _, guard := _ } :: _) _ _); refine wpList_bts (l := D) rfl rfl bytesTy (by kernel_rfl) rfl HRD.out ?_)
          refine (HTB.out _ (HGW.out _ HW.out)).mono ?_
          rintro e w7 ⟨rfl, hb7⟩
          have HW7 := Lib.hid (bstep HW.out hb7)
          clear hb7
          go_wp2_with (first
            | ((with_reducible show wpList _ _ _ ({ dst := some 17, op := _, type := _, pos := _, after := _, guard := _ } :: _) _ _); refine wpList_new (cs := #[.int .i64 0, .int .i64 0]) rfl rfl zeroPr ?_; intro wn3 g3 hg3 bn3 hn3 lt3; have HN3 := Lib.hid hg3; clear hg3 lt3)
            | ((with_reducible show wpList _ _ _ ({ dst := none, op := _, type := _, pos := _, after := _, guard := _ } :: _) _ _); refine wpList_put (vs := prC (0, 2)) rfl rfl rfl rfl bn3 rfl (by rw [sizePr]; rfl) (by simp [Value.oneCell', prC]) ?_; intro wp3 ht3 bp3))
          have hq3 := hn3.trans (ht3.below _ (by have := HN3.out; omega))
          clear bn3 hn3 ht3 HN3
          have HP3 := Lib.hid bp3
          have HW8 : Hid (Below w1.heap.size w1 wp3) := Lib.hid (bstep HW7.out hq3)
          clear hq3 bp3
          refine (sanity_any _ (HGW.out _ HW8.out)).mono ?_
          rintro e w9 ⟨rfl, hb9⟩
          have HW9 := Lib.hid (bstep HW8.out hb9)
          have q3 := blk_rowL (xs := [.int .i64 0, .int .i64 2]) (HP3.out.below hb9)
          have he := eql_Pr (0, 2) (0, 2)
          rw [decide_eq_true rfl] at he
          clear hb9
          go_wp2_with (first
            | ((with_reducible show wpList _ _ _ ({ dst := some 114, op := _, type := _, pos := _, after := _, guard := _ } :: _) _ _); refine wpList_loadKW (us := [.int .i64 0, .int .i64 2]) (by rfl) rfl rfl aggPr (by rw [sizePr]; rfl) q3 ?_)
            | ((with_reducible show wpList _ _ _ ({ dst := some 116, op := _, type := _, pos := _, after := _, guard := _ } :: _) _ _); refine wpList_opG he (by rfl) rfl rfl rfl (fun W => by kernel_rfl) ?_))
          go_ret
          exact ⟨rfl, bstep HW1.out HW9.out⟩
        · have d6 : decide ((65536 : Int) < (no : Int)) = false := by rw [decide_eq_false_iff_not]; have := HNE.out; omega
          have d6n : decide (65536 < no) = false := by rw [decide_eq_false_iff_not]; have := HNE.out; omega
          obtain ⟨ys, hy1, hy2⟩ := outT_tokens (gapAt gl) ts HGT.out HF.out.all (by rw [hDD]; omega)
          rw [hDD] at hy1
          obtain ⟨y, hy⟩ : ∃ y, ys.length = y := ⟨_, rfl⟩
          have hyb : y ≤ 2000 := by have := congrArg List.length hy2; rw [List.length_map, List.length_map, hy, HF.out.len] at this; omega
          have HTB := Lib.hid (fun W hg => tokens_okN ⟨D.toArray⟩ ys y W HZ1.out hg (by rw [bts_list]; exact hy1) hy)
          have HY := Lib.hid hy
          have HY2 := Lib.hid hy2
          clear h6 hDD hy1 hy2 hy
          go_wp2_with ((with_reducible show wpList _ _ _ ({ dst := some 105, op := _, type := _, pos := _, after := _, guard := _ } :: _) _ _); refine wpList_bts (l := D) rfl rfl bytesTy (by kernel_rfl) rfl HRD.out ?_)
          refine (HTB.out _ (HGW.out _ HW.out)).mono ?_
          rintro e w7 ⟨A7, c7, rfl, hrd7, hc7, hm7, hb7⟩
          have HW7 := Lib.hid (bstep HW.out hb7)
          have HR7 := Lib.hid hrd7
          clear hb7 hrd7
          go_wp2_with (first
            | ((with_reducible show wpList _ _ _ ({ dst := some 17, op := _, type := _, pos := _, after := _, guard := _ } :: _) _ _); refine wpList_new (cs := #[.int .i64 0, .int .i64 0]) rfl rfl zeroPr ?_; intro wn3 g3 hg3 bn3 hn3 lt3; have HN3 := Lib.hid hg3; clear hg3 lt3)
            | ((with_reducible show wpList _ _ _ ({ dst := none, op := _, type := _, pos := _, after := _, guard := _ } :: _) _ _); refine wpList_put (vs := prC (0, 0)) rfl rfl rfl rfl bn3 rfl (by rw [sizePr]; rfl) (by simp [Value.oneCell', prC]) ?_; intro wp3 ht3 bp3))
          have hq3 := hn3.trans (ht3.below _ (by have := HN3.out; omega))
          clear bn3 hn3 ht3 HN3
          have HP3 := Lib.hid bp3
          have HR8 := Lib.hid (HR7.out.below hq3)
          have HW8 : Hid (Below w1.heap.size w1 wp3) := Lib.hid (bstep HW7.out hq3)
          clear hq3 bp3
          refine (sanity_any _ (HGW.out _ HW8.out)).mono ?_
          rintro e w9 ⟨rfl, hb9⟩
          have HW9 := Lib.hid (bstep HW8.out hb9)
          have q3 := blk_rowL (xs := [.int .i64 0, .int .i64 0]) (HP3.out.below hb9)
          have he := eql_Pr (0, 0) (0, 0)
          rw [decide_eq_true rfl] at he
          have HSA := Lib.hid (same_any ts ys A k c A7 y c7 w9 (HR.out.below HW9.out) (HR8.out.below hb9) HF.out.len HY.out (by omega) (by omega))
          rw [decide_eq_true HY2.out.symm] at HSA
          clear hb9
          go_wp2_with (first
            | ((with_reducible show wpList _ _ _ ({ dst := some 120, op := _, type := _, pos := _, after := _, guard := _ } :: _) _ _); refine wpList_loadKW (us := [.int .i64 0, .int .i64 0]) (by rfl) rfl rfl aggPr (by rw [sizePr]; rfl) q3 ?_)
            | ((with_reducible show wpList _ _ _ ({ dst := some 122, op := _, type := _, pos := _, after := _, guard := _ } :: _) _ _); refine wpList_opG he (by rfl) rfl rfl rfl (fun W => by kernel_rfl) ?_))
          refine HSA.out.mono ?_
          rintro e w10 ⟨rfl, hb10⟩
          go_wp2_with fail
          go_ret
          exact ⟨rfl, bstep HW1.out (bstep HW9.out hb10)⟩
end Go.Proofs.YtiajmdmofjfdcaaGreatDoor
