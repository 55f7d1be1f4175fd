/-
  The law LexerCovers, walked. Conditions: the library's table of spaces stands.
-/
import Derived.Test.YtiajmdmofjfdcaaGreatDoorRg2
namespace Go.Proofs.YtiajmdmofjfdcaaGreatDoor
set_option linter.unusedSimpArgs false
set_option linter.unusedVariables false
open Go.RowKit Lexr
structure CovAt (L : List UInt8) (t : Tok) (T1 us : List Tok) (a x m : Nat) : Prop where
  at_ : t.at_ = (x : Int)
  hax : a ≤ x
  hxm : x + m ≤ L.length
  one : textP [t] = (wrt t, 0)
  mid : (L.take (x + m)).drop x = wrt t
  len : (wrt t).length = m
  gap : blankB ((L.take x).drop a) = true
  cut : tokens (L.take (x + m)) = .ok T1
  nxt : CovA L (x + m) us T1
theorem cov_at {L : List UInt8} {ts : List Tok} {k a : Nat} (hL : L.length ≤ 65536) (h : CovA L a (ts.drop k) (ts.take k)) (hk : k < ts.length) : ∃ x m, CovAt L ts[k] (ts.take (k + 1)) (ts.drop (k + 1)) a x m := by
  rw [List.drop_eq_getElem_cons hk] at h
  obtain ⟨x, h1, h2, h3, h4, h5, h6, h7, h8⟩ := h
  rw [List.take_append_getElem hk] at h7 h8
  refine ⟨x, (wrt ts[k]).length, h1, h2, h3, ?_, ?_, rfl, blankB_yes h6, h7, h8⟩
  · rw [← textJ_one, textP_ok]
    · show ([ts[k]].all _) = true
      rw [List.all_cons, h5]; rfl
    · rw [textJ_one]; omega
  · rw [List.drop_take, Nat.add_sub_cancel_left]; exact h4
set_option maxRecDepth 20000 in
set_option maxHeartbeats 16000000 in
theorem walkLexerCovers (s : ByteArray) (w : World) (hg : GTab w) : Calls Tryz.prog 8 #[.string s] w (LawIs w) := by
  have HG := Lib.hid hg
  have HB := Lib.hid (Below.refl w.heap.size w)
  clear hg
  by_cases hbig : 2000 < s.size
  · have d1 : decide ((2000 : Int) < (s.size : Int)) = true := by rw [decide_eq_true_eq]; omega
    have d1n : decide (2000 < s.size) = true := by rw [decide_eq_true_eq]; omega
    clear hbig
    go_enter Tryz.func8, Tryz.ntmps8
    go_wp2_with fail
    refine (sanity_any _ HG.out).mono ?_
    rintro e w9 ⟨rfl, hb9⟩
    go_wp2_with fail
    go_ret
    exact ⟨rfl, hb9⟩
  have d1 : decide ((2000 : Int) < (s.size : Int)) = false := by rw [decide_eq_false_iff_not]; omega
  have d1n : decide (2000 < s.size) = false := by rw [decide_eq_false_iff_not]; omega
  have hs : s.size ≤ 1099511627776 := by omega
  have HS : Hid (s.size ≤ 2000) := Lib.hid (by omega)
  clear hbig
  cases h : tokens s.data.toList with
  | error p =>
    have HH := Lib.hid h
    have hp0 : (p.2 != 0) = true := by simpa using tokens_err h
    clear h
    go_enter Tryz.func8, Tryz.ntmps8
    go_wp2_with fail
    refine (tokens_bad _ hs HG.out HH.out).mono ?_
    rintro e w1 ⟨rfl, hb1⟩
    go_upto_region 4 with (first
      | ((with_reducible show wpList _ _ _ ({ dst := some 4, op := _, type := _, pos := _, after := _, guard := _ } :: _) _ _); refine wpList_new (cs := #[.int .i64 0, .int .i64 0]) rfl rfl zeroPr ?_; intro wn1 g1 hg1 bn1 hn1 lt1; have HN1 := Lib.hid hg1; clear hg1 lt1)
      | ((with_reducible show wpList _ _ _ ({ dst := none, op := _, type := _, pos := _, after := _, guard := _ } :: _) _ _); refine wpList_put (vs := prC p) rfl rfl rfl rfl bn1 rfl (by rw [sizePr]; rfl) (by simp [Value.oneCell', prC]) ?_; intro wp1 ht1 bp1))
    have c1 : wp1.cell? ⟨g1, 1, none⟩ = some (.int .i64 p.2) := by have := bp1.cell 1; simpa [prC] using this
    have HW : Hid (Below w.heap.size w wp1) := Lib.hid ((bstep hb1 hn1).trans (ht1.below _ (by have := HN1.out; have := hb1.size; omega)))
    clear bn1 hn1 ht1 bp1 hb1
    go_wp2_with ((with_reducible show wpList _ _ _ ({ dst := some 22, op := _, type := _, pos := _, after := _, guard := _ } :: _) _ _); refine wpList_loadV (by rfl) rfl rfl (by kernel_rfl) c1 ?_)
    refine (sanity_any _ (HG.out.below HW.out)).mono ?_
    rintro e w9 ⟨rfl, hb9⟩
    go_wp2_with fail
    go_ret
    exact ⟨rfl, bstep HW.out hb9⟩
  | ok ts =>
    obtain ⟨n, hn⟩ : ∃ n, ts.length = n := ⟨_, rfl⟩
    have HT := Lib.hid (fun W (hg : GTab W) => tokens_okN s ts n W hs hg h hn)
    have HCV := Lib.hid (cov_tokens h)
    have HN := Lib.hid hn
    clear h hn
    by_cases hmany : 200 < n
    · have d2 : decide ((200 : Int) < (n : Int)) = true := by rw [decide_eq_true_eq]; omega
      have d2n : decide (200 < n) = true := by rw [decide_eq_true_eq]; omega
      clear hmany
      go_enter Tryz.func8, Tryz.ntmps8
      go_wp2_with fail
      refine (HT.out _ HG.out).mono ?_
      rintro e w1 ⟨A, c, rfl, -, hc1, hc2, hb1⟩
      go_upto_region 4 with (first
        | ((with_reducible show wpList _ _ _ ({ dst := some 4, op := _, type := _, pos := _, after := _, guard := _ } :: _) _ _); refine wpList_new (cs := #[.int .i64 0, .int .i64 0]) rfl rfl zeroPr ?_; intro wn1 g1 hg1 bn1 hn1 lt1; have HN1 := Lib.hid hg1; clear hg1 lt1)
        | ((with_reducible show wpList _ _ _ ({ dst := none, op := _, type := _, pos := _, after := _, guard := _ } :: _) _ _); refine wpList_put (vs := prC (0, 0)) rfl rfl rfl rfl bn1 rfl (by rw [sizePr]; rfl) (by simp [Value.oneCell', prC]) ?_; intro wp1 ht1 bp1))
      have c1 : wp1.cell? ⟨g1, 1, none⟩ = some (.int .i64 0) := by have := bp1.cell 1; simpa [prC] using this
      have HW : Hid (Below w.heap.size w wp1) := Lib.hid ((bstep hb1 hn1).trans (ht1.below _ (by have := HN1.out; have := hb1.size; omega)))
      clear bn1 hn1 ht1 bp1 hb1
      go_wp2_with ((with_reducible show wpList _ _ _ ({ dst := some 22, op := _, type := _, pos := _, after := _, guard := _ } :: _) _ _); refine wpList_loadV (by rfl) rfl rfl (by kernel_rfl) c1 ?_)
      refine (sanity_any _ (HG.out.below HW.out)).mono ?_
      rintro e w9 ⟨rfl, hb9⟩
      go_wp2_with fail
      go_ret
      exact ⟨rfl, bstep HW.out hb9⟩
    have d2 : decide ((200 : Int) < (n : Int)) = false := by rw [decide_eq_false_iff_not]; omega
    have d2n : decide (200 < n) = false := by rw [decide_eq_false_iff_not]; omega
    have hn200 : n ≤ 200 := by omega
    clear hmany
    go_enter Tryz.func8, Tryz.ntmps8
    go_wp2_with fail
    refine (HT.out _ HG.out).mono ?_
    rintro e w1 ⟨A, c, rfl, hrd, hc1, hc2, hb1⟩
    have HR := Lib.hid hrd
    clear hrd HT
    go_upto_region 4 with (first
      | ((with_reducible show wpList _ _ _ ({ dst := some 4, op := _, type := _, pos := _, after := _, guard := _ } :: _) _ _); refine wpList_new (cs := #[.int .i64 0, .int .i64 0]) rfl rfl zeroPr ?_; intro wn1 g1 hg1 bn1 hn1 lt1; have HN1 := Lib.hid hg1; clear hg1 lt1)
      | ((with_reducible show wpList _ _ _ ({ dst := none, op := _, type := _, pos := _, after := _, guard := _ } :: _) _ _); refine wpList_put (vs := prC (0, 0)) rfl rfl rfl rfl bn1 rfl (by rw [sizePr]; rfl) (by simp [Value.oneCell', prC]) ?_; intro wp1 ht1 bp1))
    have c1 : wp1.cell? ⟨g1, 1, none⟩ = some (.int .i64 0) := by have := bp1.cell 1; simpa [prC] using this
    have HQ : Hid (Below w1.heap.size w1 wp1) := Lib.hid (hn1.trans (ht1.below _ (by have := HN1.out; omega)))
    have HW1 := Lib.hid hb1
    clear bn1 hn1 ht1 bp1 hb1
    go_wp2_with ((with_reducible show wpList _ _ _ ({ dst := some 22, op := _, type := _, pos := _, after := _, guard := _ } :: _) _ _); refine wpList_loadV (by rfl) rfl rfl (by kernel_rfl) c1 ?_)
    clear c1
    go_loopw [5, 6, 7, 8, 9, 10, 11] (fun v5 v6 _ _ _ _ _ wl => ∃ k a : Nat, k ≤ n ∧ a ≤ s.size ∧ v5 = .int .i64 a ∧ v6 = .int .i64 k ∧ Hid (CovA s.data.toList a (ts.drop k) (ts.take k)) ∧ Hid (Below w1.heap.size w1 wl)) (fun _ v6 _ _ _ _ _ _ => n - (intOf v6).toNat)
    case atStart => exact ⟨0, 0, Nat.zero_le _, Nat.zero_le _, rfl, rfl, HCV, HQ⟩
    case round =>
      clear HQ HCV
      obtain ⟨k, a, hk, hal, rfl, rfl, HC, HW⟩ := hrel
      have HGW : Hid (∀ W, Below w1.heap.size w1 W → GTab W) := Lib.hid (fun W hW => HG.out.below (bstep HW1.out hW))
      by_cases hlt : k < n
      · have hkl : k < ts.length := by rw [HN.out]; exact hlt
        obtain ⟨x, m, hF⟩ := cov_at (by rw [list_size]; have := HS.out; omega) HC.out hkl
        have HF := Lib.hid hF
        obtain ⟨ad, rfl, -⟩ := RdT.get HR.out hkl
        have HC1 : Hid (∀ W, Below w1.heap.size w1 W → RdT W (some (ad.add (k * 3))) 1 [ts[k]]) := Lib.hid (fun W hW => rd_one rfl (HR.out.below hW) hkl)
        have HCP : Hid (∀ W, Below w1.heap.size w1 W → RdT W (some ad) (k + 1) (ts.take (k + 1))) := Lib.hid (fun W hW => rd_pre (HR.out.below hW) (by omega))
        have HCC : Hid (∀ W, Below w1.heap.size w1 W → ∀ j u, (tokL ts[k])[j]? = some u → W.cell? ((ad.add (k * 3)).add j) = some u) := Lib.hid (fun W hW => by
          obtain ⟨_, e, h⟩ := RdT.get (HR.out.below hW) hkl
          injection e with e
          subst e
          exact h)
        have HL1 : Hid ((ts.take (k + 1)).length = k + 1) := Lib.hid (by rw [List.length_take]; omega)
        have HNX := Lib.hid hF.nxt
        have HSL : Hid (ts[k].s.length ≤ 2000) := Lib.hid (tok_small (by rw [hF.len]; have := hF.hxm; rw [list_size] at this; have := HS.out; omega))
        clear hF
        obtain ⟨T1, hT1⟩ : ∃ T, ts.take (k + 1) = T := ⟨_, rfl⟩
        rw [hT1] at HCP HL1 HNX HF
        have HT1 := Lib.hid hT1
        clear hT1
        generalize ts[k] = t at *
        clear hkl HC
        have hax := HF.out.hax
        have hxm : x + m ≤ s.size := by have := HF.out.hxm; rwa [list_size] at this
        have hat := HF.out.at_
        have HTX := Lib.hid (fun cc W hW => text_all [t] (some (ad.add (k * 3))) 1 cc W (HGW.out W hW) (HC1.out W hW) rfl (by omega) (by intro u hu; rw [List.mem_singleton] at hu; subst hu; have := HSL.out; omega))
        rw [HF.out.one] at HTX
        dsimp only at HTX
        have hz2 : (⟨(wrt t).toArray⟩ : ByteArray).size = m := by rw [bts_size]; exact HF.out.len
        have hz1 : (wrt t).toArray.size = m := by rw [List.size_toArray]; exact HF.out.len
        have hx9 : x ≤ 2000 := by have := HS.out; omega
        have hm9 : m ≤ 2000 := by have := HS.out; omega
        have dd1 : decide ((x : Int) < (a : Int)) = false := by rw [decide_eq_false_iff_not]; omega
        have dd1n : decide (x < a) = false := by rw [decide_eq_false_iff_not]; omega
        have dd2 : decide ((s.size : Int) < (x : Int) + (m : Int)) = false := by rw [decide_eq_false_iff_not]; omega
        have dd2n : decide (s.size < x + m) = false := by rw [decide_eq_false_iff_not]; omega
        have hne := neq_Bs (wrt t) (wrt t)
        rw [decide_eq_true rfl] at hne
        have HMID := Lib.hid HF.out.mid
        have HBL : Hid (∀ W, GTab W → Calls Tryz.prog 25 #[.string ⟨((s.data.toList.take x).drop a).toArray⟩] W fun e w' => e = .returned (.bool true) ∧ Below W.heap.size W w') := Lib.hid (fun W hW => by
          have h := blank_any ⟨((s.data.toList.take x).drop a).toArray⟩ W (by rw [bts_size, List.length_drop, List.length_take]; have := HS.out; rw [list_size]; omega) hW
          rw [bts_list, HF.out.gap] at h
          exact h)
        have HTK : Hid (∀ W, GTab W → Calls Tryz.prog 10 #[.string ⟨(s.data.toList.take (x + m)).toArray⟩] W fun e w' => ∃ A c, e = .returned (.tuple #[.slice A (k + 1) c, prV (0, 0)]) ∧ RdT w' A (k + 1) T1 ∧ k + 1 ≤ c ∧ c ≤ maxLen ∧ Below W.heap.size W w') := Lib.hid (fun W hW => tokens_okN _ T1 (k + 1) W (by rw [bts_size, List.length_take]; have := HS.out; rw [list_size]; omega) hW (by rw [bts_list]; exact HF.out.cut) HL1.out)
        clear HF
        obtain ⟨D, hD⟩ : ∃ D, wrt t = D := ⟨_, rfl⟩
        rw [hD] at HTX hz2 hz1 hne HMID
        clear hD
        go_upto_region 11 with ((with_reducible show wpList _ _ _ ({ dst := some 41, op := _, type := _, pos := _, after := _, guard := _ } :: _) _ _); refine wpList_oneT (by rfl) rfl rfl rfl (by go_num) hlt hc1 ?_; intro c')
        refine (HTX.out c' _ HW.out).mono ?_
        rintro e w2 ⟨rfl, hb2⟩
        have HW2 := Lib.hid (bstep HW.out hb2)
        have e1 := tok_c1 (HCC.out _ HW2.out)
        rw [hat] at e1
        clear HCC hb2 hat
        have hmid := HMID.out
        go_wp2_with (first
          | ((with_reducible show wpList _ _ _ ({ dst := some 49, op := _, type := _, pos := _, after := _, guard := _ } :: _) _ _); refine wpList_loadV (by rfl) rfl rfl (by kernel_rfl) e1 ?_)
          | ((with_reducible show wpList _ _ _ ({ dst := some 73, op := _, type := _, pos := _, after := _, guard := _ } :: _) _ _); refine wpList_cutW (by rfl) rfl rfl rfl (by go_num) (Nat.le_add_right x m) hxm hmid ?_)
          | ((with_reducible show wpList _ _ _ ({ dst := some 75, op := _, type := _, pos := _, after := _, guard := _ } :: _) _ _); refine wpList_opG hne (by rfl) rfl rfl rfl (fun W => by kernel_rfl) ?_)
          | ((with_reducible show wpList _ _ _ ({ dst := some 81, op := _, type := _, pos := _, after := _, guard := _ } :: _) _ _); refine wpList_cutW (by rfl) rfl rfl rfl rfl hax (by omega) rfl ?_))
        refine (HBL.out _ (HGW.out _ HW2.out)).mono ?_
        rintro e w3 ⟨rfl, hb3⟩
        have HW3 := Lib.hid (bstep HW2.out hb3)
        clear hb3 e1 hmid HBL
        go_wp2_with ((with_reducible show wpList _ _ _ ({ dst := some 92, op := _, type := _, pos := _, after := _, guard := _ } :: _) _ _); refine wpList_preW (j := x + m) (by rfl) rfl rfl (by go_num) hxm rfl ?_)
        refine (HTK.out _ (HGW.out _ HW3.out)).mono ?_
        rintro e w4 ⟨A4, c4, rfl, hrd4, hc4, hm4, hb4⟩
        have HW4 := Lib.hid (bstep HW3.out hb4)
        have HR4 := Lib.hid hrd4
        clear hb4 hrd4 HTK
        go_upto_region 16 with (first
          | ((with_reducible show wpList _ _ _ ({ dst := some 11, op := _, type := _, pos := _, after := _, guard := _ } :: _) _ _); refine wpList_new (cs := #[.int .i64 0, .int .i64 0]) rfl rfl zeroPr ?_; intro wn5 g5 hg5 bn5 hn5 lt5; have HN5 := Lib.hid hg5; clear hg5 lt5)
          | ((with_reducible show wpList _ _ _ ({ dst := none, op := _, type := _, pos := _, after := _, guard := _ } :: _) _ _); refine wpList_put (vs := prC (0, 0)) rfl rfl rfl rfl bn5 rfl (by rw [sizePr]; rfl) (by simp [Value.oneCell', prC]) ?_; intro wp5 ht5 bp5))
        have c5 : wp5.cell? ⟨g5, 1, none⟩ = some (.int .i64 0) := by have := bp5.cell 1; simpa [prC] using this
        have hq5 : Below w4.heap.size w4 wp5 := hn5.trans (ht5.below _ (by have := HN5.out; omega))
        have HW5 : Hid (Below w1.heap.size w1 wp5) := Lib.hid (bstep HW4.out hq5)
        have HR5 := Lib.hid (HR4.out.below hq5)
        have HP5 := Lib.hid (HCP.out _ HW5.out)
        clear bn5 hn5 ht5 bp5 HR4 HCP hq5
        have HEQ := Lib.hid (fun d1 d2 => equal_any T1 T1 A4 (k + 1) d1 (some ad) (k + 1) d2 wp5 HR5.out HP5.out HL1.out HL1.out (by omega) (by omega))
        rw [decide_eq_true rfl] at HEQ
        go_wp2_with (first
          | ((with_reducible show wpList _ _ _ ({ dst := some 97, op := _, type := _, pos := _, after := _, guard := _ } :: _) _ _); refine wpList_loadV (by rfl) rfl rfl (by kernel_rfl) c5 ?_)
          | ((with_reducible show wpList _ _ _ ({ dst := some 104, op := _, type := _, pos := _, after := _, guard := _ } :: _) _ _); refine wpList_preT (k := k + 1) (by rfl) rfl rfl (by go_num) (by omega) ?_))
        refine (HEQ.out _ _).mono ?_
        rintro e w6 ⟨rfl, hb6⟩
        have HW6 := Lib.hid (bstep HW5.out hb6)
        go_wp2_with fail
        exact ⟨⟨k + 1, x + m, by omega, hxm, by go_num, by go_num, by rw [HT1.out]; exact HNX, HW6⟩, by simp [intOf]; omega⟩
      · obtain rfl : k = n := by omega
        have hfull : ts.drop k = [] := by rw [← HN.out, List.drop_length]
        have HBL : Hid (∀ W, GTab W → Calls Tryz.prog 25 #[.string ⟨(s.data.toList.drop a).toArray⟩] W fun e w' => e = .returned (.bool true) ∧ Below W.heap.size W w') := Lib.hid (fun W hW => by
          have h := blank_any ⟨(s.data.toList.drop a).toArray⟩ W (by rw [bts_size, List.length_drop]; have := HS.out; rw [list_size]; omega) hW
          have h2 := HC.out
          rw [hfull] at h2
          rw [bts_list, blankB_yes h2] at h
          exact h)
        clear hfull HC
        go_wp2_with fail
        refine (sanity_any _ (HGW.out _ HW.out)).mono ?_
        rintro e w7 ⟨rfl, hb7⟩
        have HW7 := Lib.hid (bstep HW.out hb7)
        go_wp2_with ((with_reducible show wpList _ _ _ ({ dst := some 112, op := _, type := _, pos := _, after := _, guard := _ } :: _) _ _); refine wpList_sufW (by rfl) rfl rfl rfl hal rfl ?_)
        refine (HBL.out _ (HGW.out _ HW7.out)).mono ?_
        rintro e w8 ⟨rfl, hb8⟩
        have HW8 := Lib.hid (bstep HW7.out hb8)
        go_wp2_with fail
        go_ret
        exact ⟨rfl, bstep HW1.out HW8.out⟩
end Go.Proofs.YtiajmdmofjfdcaaGreatDoor
