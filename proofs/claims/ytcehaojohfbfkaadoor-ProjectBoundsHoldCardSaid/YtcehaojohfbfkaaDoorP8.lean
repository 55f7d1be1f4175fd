/-
  The law ProjectBoundsHold, walked. Condition: the table of constants reads as the program lays it.
-/
import Derived.Test.YtcehaojohfbfkaaDoorP4
namespace Go.Proofs.YtcehaojohfbfkaaDoor
set_option linter.unusedSimpArgs false
set_option linter.unusedVariables false
open Go.RowKit Proj
theorem fold_has (l : List Int) : ∀ (us : List (List Int)) (r : Int × Int), (us.foldl (fun r u => (min r.1 (dot l u), max r.2 (dot l u))) r).1 ≤ r.1 ∧ r.2 ≤ (us.foldl (fun r u => (min r.1 (dot l u), max r.2 (dot l u))) r).2 ∧
    ∀ u ∈ us, (us.foldl (fun r u => (min r.1 (dot l u), max r.2 (dot l u))) r).1 ≤ dot l u ∧ dot l u ≤ (us.foldl (fun r u => (min r.1 (dot l u), max r.2 (dot l u))) r).2
  | [], r => ⟨Int.le_refl _, Int.le_refl _, by simp⟩
  | u :: us, r => by
    have ⟨h1, h2, h3⟩ := fold_has l us (min r.1 (dot l u), max r.2 (dot l u))
    simp only [List.foldl_cons]
    simp only at h1 h2
    refine ⟨by omega, by omega, fun z hz => ?_⟩
    rcases List.mem_cons.1 hz with rfl | hz
    · omega
    · exact h3 z hz
theorem colR_has (l v : List Int) (us : List (List Int)) : ∀ z ∈ v :: us, (colR l v us).1 ≤ dot l z ∧ dot l z ≤ (colR l v us).2 := by
  intro z hz
  have ⟨h1, h2, h3⟩ := fold_has l us (dot l v, dot l v)
  unfold colR
  rcases List.mem_cons.1 hz with rfl | hz
  · exact ⟨h1, h2⟩
  · exact h3 z hz
theorem has_rangesOf (ls : List (List Int)) (v : List Int) (us : List (List Int)) (z : List Int) (hz : z ∈ v :: us) : has (rangesOf ls v us) (apply ls z) = true := by
  rw [has_iff _ _ (by simp [rangesOf, apply])]
  intro k h h'
  simp only [rangesOf, apply, List.getElem_map]
  exact colR_has _ v us z hz
set_option maxRecDepth 20000 in
set_option maxHeartbeats 8000000 in
theorem walkProjectBoundsHold (M : Int) (A : Option Addr) (n c : Nat) (ls : List (List Int)) (R : Option Addr) (nr cr : Nat) (rs : List (Int × Int)) (B : Option Addr) (m d : Nat) (q : List Int) (C : Option Addr) (k f : Nat) (vs : List (List Int)) (w : World)
    (f0 : (Lit.int .i64 M).wf = true) (x1 : n ≤ c) (y1 : c ≤ maxLen) (ha : RdR w A n ls) (e1 : ∀ l ∈ ls, ∀ z ∈ l, (Lit.int .i64 z).wf = true) (x2 : nr ≤ cr) (y2 : cr ≤ maxLen) (hr : RdP w R nr rs) (e2 : ∀ r ∈ rs, (Lit.int .i64 r.1).wf = true ∧ (Lit.int .i64 r.2).wf = true)
    (x3 : m ≤ d) (y3 : d ≤ maxLen) (z3 : q.length = m) (hb : Rd w B m (iv q)) (e3 : ∀ z ∈ q, (Lit.int .i64 z).wf = true) (x4 : k ≤ f) (y4 : f ≤ maxLen) (hc : RdR w C k vs) (e4 : ∀ l ∈ vs, ∀ z ∈ l, (Lit.int .i64 z).wf = true) (hg : GCon w) :
    Calls Tryd.prog 8 #[.int .i64 M, .slice A n c, .slice R nr cr, .slice B m d, .slice C k f] w fun e w' => e = .returned (.bool true) ∧ Below w.heap.size w w' := by
  have HX4 := Lib.hid x4
  have HY4 := Lib.hid y4
  have hn := Nat.le_trans x1 y1
  have hnr := Nat.le_trans x2 y2
  have hm := Nat.le_trans x3 y3
  have hk := Nat.le_trans x4 y4
  clear f0 e1 e2 e3 e4 x1 y1 x2 y2 x3 y3 z3 x4 y4
  have HLa := Lib.hid ha.len
  have HLr := Lib.hid hr.len
  have HLq := Lib.hid (show q.length = m by have := hb.len; simpa using this)
  have HLc := Lib.hid hc.len
  have HG := Lib.hid hg
  clear hg
  simp only [maxLen] at hn hnr hm hk
  have H1 := Lib.hid (fits_any A n c ls C k f vs w ha hc (by omega) (by omega))
  have H4 := Lib.hid (fun W => refMetric_any M W)
  go_enter Tryd.func8, Tryd.ntmps8
  go_wp2_with fail
  refine H1.out.mono ?_
  rintro e w1 ⟨rfl, hb1⟩
  cases h1 : fitsB ls vs
  · go_wp2_with fail
    refine (sanity_any _ (HG.out.below hb1)).mono ?_
    rintro e w2 ⟨rfl, hb2⟩
    go_wp2_with fail
    go_ret
    exact ⟨rfl, bstep hb1 hb2⟩
  obtain ⟨v, us, rfl, ha20, hVa, hv32, hv1, hLY, hVB⟩ := fitsB_yes h1
  have hk20 : k ≤ 20 := by rw [HLc.out] at ha20; exact ha20
  have hk0 : 0 < k := by have := HLc.out; simp at this; omega
  have hn8 : n ≤ 8 := by have := hLY.n8; rw [HLa.out] at this; exact this
  have hn1 : 0 < n := by have := hLY.n1; rw [HLa.out] at this; omega
  obtain ⟨cd, Lv, cv, rfl, hcv, hlcv, hmcv, hrv⟩ := (hc.below hb1).row 0 (by simp)
  rw [show cd.add 0 = cd from rfl] at hcv
  simp only [List.getElem_cons_zero] at hcv hlcv hrv
  go_wp2_with fail
  refine (alike_any B m d q Lv v.length cv v _ (hb.below hb1) hrv (by omega) (by omega)).mono ?_
  rintro e w2 ⟨rfl, rfl⟩
  cases h2 : (vecB q && vecB v && decide (q.length = v.length))
  · go_wp2_with fail
    refine (sanity_any _ (HG.out.below hb1)).mono ?_
    rintro e w2 ⟨rfl, hb2⟩
    go_wp2_with fail
    go_ret
    exact ⟨rfl, bstep hb1 hb2⟩
  go_wp2_with fail
  refine (H4.out _).mono ?_
  rintro e w2 ⟨rfl, rfl⟩
  cases h4 : decide (1 ≤ M ∧ M ≤ 3)
  · go_wp2_with fail
    refine (sanity_any _ (HG.out.below hb1)).mono ?_
    rintro e w2 ⟨rfl, hb2⟩
    go_wp2_with fail
    go_ret
    exact ⟨rfl, bstep hb1 hb2⟩
  simp only [Bool.and_eq_true, decide_eq_true_eq] at h2
  have HM := Lib.hid (of_decide_eq_true h4)
  have HQ := Lib.hid (vec_le h2.1.1)
  have HQv := Lib.hid h2.2
  have hmv : m = v.length := by rw [← HLq.out]; exact h2.2
  have hm32 : m ≤ 32 := by omega
  have hm0 : 0 < m := by omega
  have HVa := Lib.hid hVa
  have HLY := Lib.hid hLY
  have HMV := Lib.hid hmv
  have HPx := Lib.hid (pairs_rangesOf (by omega) hLY.ok hVa)
  clear h1 h2 h4 H1 H4 hVa hLY ha20 hVB hcv hrv hlcv hmcv hv1 hv32 hmv
  go_wp2_with fail
  refine (of_ranges A n c ls (some cd) k f v us v.length _ (ha.below hb1) (hc.below hb1) (by omega) hn1 (by omega) HX4.out HY4.out (by have := HMV.out; omega) HLY.out.ok HVa.out).mono ?_
  rintro e w3 ⟨vx, rfl, hox, hb3⟩
  replace hb1 := bstep hb1 hb3
  obtain ⟨Ax, cx, rfl, hcx, hmx, hrx⟩ := hox.form
  rw [length_rangesOf, HLa.out] at hrx hcx ⊢
  clear hox hb3
  go_wp2_with fail
  go_loopw [13, 14, 38] (fun _ _ j wr => ∃ i : Nat, i ≤ k ∧ j = .int .i64 i ∧ Below w3.heap.size w3 wr) (fun _ _ j _ => k - (intOf j).toNat)
  case atStart => exact ⟨0, Nat.zero_le _, rfl, Below.refl _ _⟩
  case round =>
    obtain ⟨i, hi, rfl, hbi⟩ := hrel
    have hB := bstep hb1 hbi
    by_cases hlt : i < k
    · obtain ⟨cd', Lz, cz, he, hcz, hlcz, hmcz, hrz⟩ := (hc.below hB).row i (by have := HLc.out; omega)
      injection he with he
      subst he
      have HZ := Lib.hid (List.getElem_mem (show i < (v :: us).length by have := HLc.out; omega))
      generalize (v :: us)[i]'(by have := HLc.out; omega) = z at *
      have HZl := Lib.hid (HVa.out.len z HZ.out)
      have HZe := Lib.hid (HVa.out.le z HZ.out)
      have HH := Lib.hid (has_rangesOf ls v us z HZ.out)
      have HK := Lib.hid (fun rs (h : has rs (apply ls z) = true) => bound_le_key (m := M) HM.out (q := q) (v := z) (by rw [HQv.out, HZl.out]) ls rs HLY.out.some h)
      have HLs : Hid ((apply ls z).length = n) := Lib.hid (by simp [apply, HLa.out])
      have ha1 := ha.below hB
      have hr1 := hr.below hB
      have hq1 := hb.below hB
      have hrx1 := hrx.below hbi
      go_wp2_with fail
      refine (key_any M B m d q Lz z.length cz z _ HM.out hq1 hrz (by have := HZl.out; have := HMV.out; omega) hm0 (by omega) HQ.out HZe.out).mono ?_
      rintro e w4 ⟨rfl, hb4⟩
      replace ha1 := ha1.below hb4
      replace hr1 := hr1.below hb4
      replace hq1 := hq1.below hb4
      replace hrx1 := hrx1.below hb4
      replace hrz := hrz.below hb4
      replace hbi := bstep hbi hb4
      go_wp2_with fail
      refine (apply_any A n c ls Lz z.length cz z _ ha1 hrz (by omega) (by have := HZl.out; have := HMV.out; omega) (by rw [HZl.out]; exact HLY.out.ok) HZe.out).mono ?_
      rintro e w5 ⟨v5, rfl, ho5, hb5⟩
      replace ha1 := ha1.below hb5
      replace hr1 := hr1.below hb5
      replace hq1 := hq1.below hb5
      replace hrx1 := hrx1.below hb5
      replace hrz := hrz.below hb5
      replace hbi := bstep hbi hb5
      obtain ⟨A5, c5, rfl, hc5, hm5, hr5⟩ := ho5.form
      rw [length_iv, HLs.out] at hr5 hc5 ⊢
      clear ho5 hb4 hb5
      go_wp2_with fail
      refine (has_any Ax n cx _ A5 c5 _ _ hrx1 hr5 (by omega)).mono ?_
      rintro e w6 ⟨rfl, hb6⟩
      rw [HH.out]
      replace ha1 := ha1.below hb6
      replace hr1 := hr1.below hb6
      replace hq1 := hq1.below hb6
      replace hrx1 := hrx1.below hb6
      replace hrz := hrz.below hb6
      replace hbi := bstep hbi hb6
      clear hr5 hb6
      go_wp2_with fail
      refine (boundM_any M HM.out A n c ls Ax cx _ B m d q _ ha1 hrx1 hq1 (by omega) (by omega) (by rw [HMV.out]; exact HLY.out.ok) HLY.out.some HPx.out HQ.out).mono ?_
      rintro e w7 ⟨rfl, hb7⟩
      have hle := HK.out _ HH.out
      replace ha1 := ha1.below hb7
      replace hr1 := hr1.below hb7
      replace hq1 := hq1.below hb7
      replace hrz := hrz.below hb7
      replace hbi := bstep hbi hb7
      clear hb7 hrx1
      generalize bound M ls (rangesOf ls v us) q = b1 at *
      generalize norm M (sub q z) = key at *
      have hd1 : decide (key < b1) = false := decide_eq_false (by omega)
      have hnlt : ¬ key < b1 := by omega
      go_wp2_with fail
      refine (ranges_any R nr cr rs n _ hr1 (by omega)).mono ?_
      rintro e w8 ⟨rfl, hb8⟩
      replace ha1 := ha1.below hb8
      replace hr1 := hr1.below hb8
      replace hq1 := hq1.below hb8
      replace hrz := hrz.below hb8
      replace hbi := bstep hbi hb8
      clear hb8
      cases h3 : rangesB rs n
      · go_wp2_with fail
        exact ⟨⟨i + 1, by omega, by go_num, hbi⟩, by simp [intOf]; omega⟩
      have HRY := Lib.hid (rangesB_yes h3)
      have hnr2 : nr = n := by have := HRY.out.1; rw [HLr.out] at this; exact this
      subst hnr2
      clear h3
      go_wp2_with fail
      refine (apply_any A nr c ls Lz z.length cz z _ ha1 hrz (by omega) (by have := HZl.out; have := HMV.out; omega) (by rw [HZl.out]; exact HLY.out.ok) HZe.out).mono ?_
      rintro e w9 ⟨v9, rfl, ho9, hb9⟩
      replace ha1 := ha1.below hb9
      replace hr1 := hr1.below hb9
      replace hq1 := hq1.below hb9
      replace hbi := bstep hbi hb9
      obtain ⟨A9, c9, rfl, hc9, hm9, hr9⟩ := ho9.form
      rw [length_iv, HLs.out] at hr9 hc9 ⊢
      clear ho9 hb9
      go_wp2_with fail
      refine (has_any R nr cr rs A9 c9 _ _ hr1 hr9 (by omega)).mono ?_
      rintro e w10 ⟨rfl, hb10⟩
      replace ha1 := ha1.below hb10
      replace hr1 := hr1.below hb10
      replace hq1 := hq1.below hb10
      replace hbi := bstep hbi hb10
      clear hr9 hb10
      cases h5 : has rs (apply ls z)
      · go_wp2_with fail
        exact ⟨⟨i + 1, by omega, by go_num, hbi⟩, by simp [intOf]; omega⟩
      have hle2 := HK.out _ h5
      clear h5
      go_wp2_with fail
      refine (boundM_any M HM.out A nr c ls R cr rs B m d q _ ha1 hr1 hq1 (by omega) (by omega) (by rw [HMV.out]; exact HLY.out.ok) HLY.out.some HRY.out.2.2 HQ.out).mono ?_
      rintro e w11 ⟨rfl, hb11⟩
      replace hbi := bstep hbi hb11
      clear hb11
      generalize bound M ls rs q = b2 at *
      have hd2 : decide (key < b2) = false := decide_eq_false (by omega)
      have hnlt2 : ¬ key < b2 := by omega
      go_wp2_with fail
      exact ⟨⟨i + 1, by omega, by go_num, hbi⟩, by simp [intOf]; omega⟩
    · obtain rfl : i = k := by omega
      go_wp2_with fail
      refine (sanity_any _ (HG.out.below hB)).mono ?_
      rintro e w2 ⟨rfl, hb2⟩
      go_wp2_with fail
      go_ret
      exact ⟨rfl, bstep hB hb2⟩
end Go.Proofs.YtcehaojohfbfkaaDoor
