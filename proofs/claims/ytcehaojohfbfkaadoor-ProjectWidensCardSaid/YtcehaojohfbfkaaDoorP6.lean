/-
  The law ProjectWidens, walked. Condition: the table of constants reads as the program lays it.
-/
import Derived.Test.YtcehaojohfbfkaaDoorP4
namespace Go.Proofs.YtcehaojohfbfkaaDoor
set_option linter.unusedSimpArgs false
set_option linter.unusedVariables false
open Go.RowKit Proj
set_option maxRecDepth 20000 in
set_option maxHeartbeats 8000000 in
theorem walkProjectWidens (M : Int) (A : Option Addr) (n c : Nat) (ls : List (List Int)) (R : Option Addr) (nr cr : Nat) (rs : List (Int × Int)) (T : Option Addr) (nt ct : Nat) (ts : List (Int × Int)) (B : Option Addr) (m d : Nat) (q : List Int) (w : World)
    (f0 : (Lit.int .i64 M).wf = true) (x1 : n ≤ c) (y1 : c ≤ maxLen) (ha : RdR w A n ls) (e1 : ∀ l ∈ ls, ∀ z ∈ l, (Lit.int .i64 z).wf = true) (x2 : nr ≤ cr) (y2 : cr ≤ maxLen) (hr : RdP w R nr rs) (e2 : ∀ r ∈ rs, (Lit.int .i64 r.1).wf = true ∧ (Lit.int .i64 r.2).wf = true)
    (x3 : nt ≤ ct) (y3 : ct ≤ maxLen) (ht : RdP w T nt ts) (e3 : ∀ r ∈ ts, (Lit.int .i64 r.1).wf = true ∧ (Lit.int .i64 r.2).wf = true) (x4 : m ≤ d) (y4 : d ≤ maxLen) (z4 : q.length = m) (hb : Rd w B m (iv q)) (e4 : ∀ z ∈ q, (Lit.int .i64 z).wf = true) (hg : GCon w) :
    Calls Tryd.prog 6 #[.int .i64 M, .slice A n c, .slice R nr cr, .slice T nt ct, .slice B m d] w fun e w' => e = .returned (.bool true) ∧ Below w.heap.size w w' := by
  have hn := Nat.le_trans x1 y1
  have hnr := Nat.le_trans x2 y2
  have hnt := Nat.le_trans x3 y3
  have hm := Nat.le_trans x4 y4
  clear f0 e1 e2 e3 e4 x1 y1 x2 y2 x3 y3 x4 y4 z4
  have HLa := Lib.hid ha.len
  have HLr := Lib.hid hr.len
  have HLt := Lib.hid ht.len
  have HLq := Lib.hid (show q.length = m by have := hb.len; simpa using this)
  have HG := Lib.hid hg
  clear hg
  simp only [maxLen] at hn hnr hnt hm
  have H1 := Lib.hid (refValid_any B m d q w (by omega) hb)
  have H2 := Lib.hid (refLinesValid_any A n c ls m w ha (by omega))
  have H3 := Lib.hid (ranges_any R nr cr rs n w hr (by omega))
  have H3b := Lib.hid (fun W (hw : Below w.heap.size w W) => ranges_any T nt ct ts n W (ht.below hw) (by omega))
  have H4 := Lib.hid (fun W => refMetric_any M W)
  go_enter Tryd.func6, Tryd.ntmps6
  go_wp2_with fail
  refine H1.out.mono ?_
  rintro e w1 ⟨rfl, rfl⟩
  cases h1 : vecB q
  · go_wp2_with fail
    refine (sanity_any _ HG.out).mono ?_
    rintro e w1 ⟨rfl, hb1⟩
    go_wp2_with fail
    go_ret
    exact ⟨rfl, hb1⟩
  go_wp2_with fail
  refine H2.out.mono ?_
  rintro e w1 ⟨rfl, rfl⟩
  cases h2 : linesB ls m
  · go_wp2_with fail
    refine (sanity_any _ HG.out).mono ?_
    rintro e w1 ⟨rfl, hb1⟩
    go_wp2_with fail
    go_ret
    exact ⟨rfl, hb1⟩
  go_wp2_with fail
  refine H3.out.mono ?_
  rintro e w1 ⟨rfl, hb1⟩
  cases h3 : rangesB rs n
  · go_wp2_with fail
    refine (sanity_any _ (HG.out.below hb1)).mono ?_
    rintro e w2 ⟨rfl, hb2⟩
    go_wp2_with fail
    go_ret
    exact ⟨rfl, bstep hb1 hb2⟩
  go_wp2_with fail
  refine (H3b.out _ hb1).mono ?_
  rintro e w2 ⟨rfl, hb2⟩
  replace hb1 := bstep hb1 hb2
  clear hb2
  cases h3b : rangesB ts n
  · go_wp2_with fail
    refine (sanity_any _ (HG.out.below hb1)).mono ?_
    rintro e w2 ⟨rfl, hb2⟩
    go_wp2_with fail
    go_ret
    exact ⟨rfl, bstep hb1 hb2⟩
  go_wp2_with fail
  refine (H4.out _).mono ?_
  rintro e w2 ⟨rfl, rfl⟩
  cases h4 : decide (1 ≤ M ∧ M ≤ 3)
  · go_wp2_with fail
    refine (sanity_any _ (HG.out.below hb1)).mono ?_
    rintro e w2 ⟨rfl, hb2⟩
    go_wp2_with fail
    go_ret
    exact ⟨rfl, bstep hb1 hb2⟩
  have HM := Lib.hid (of_decide_eq_true h4)
  have HLY := Lib.hid (linesB_yes h2)
  have HRY := Lib.hid (rangesB_yes h3)
  have HTY := Lib.hid (rangesB_yes h3b)
  have HQ := Lib.hid (vec_le h1)
  obtain rfl : nr = n := by have := HRY.out.1; rw [HLr.out] at this; exact this
  obtain rfl : nt = nr := by have := HTY.out.1; rw [HLt.out] at this; exact this
  have hn8 : nt ≤ 8 := by have := HLY.out.n8; rw [HLa.out] at this; exact this
  have hn1 : 0 < nt := by have := HLY.out.n1; rw [HLa.out] at this; omega
  have hm32 : m ≤ 32 := HLY.out.d32
  have HLj : Hid ((join rs ts).length = nt) := Lib.hid (by rw [length_join, HLr.out, HLt.out]; simp)
  have HLs : Hid ((apply ls q).length = nt) := Lib.hid (by simp [apply, HLa.out])
  have HPj := Lib.hid (pairs_join HRY.out.2.2 HTY.out.2.2)
  have HB1 := Lib.hid (bound_join_le (m := M) (q := q) ls rs ts HLY.out.some (by rw [HLr.out, HLt.out]))
  have HB2 := Lib.hid (bound_join_le (m := M) (q := q) ls ts rs HLY.out.some (by rw [HLr.out, HLt.out]))
  have HJc := Lib.hid (join_comm rs ts)
  have HBh := Lib.hid (fun h => bound_has (m := M) (q := q) ls rs HLY.out.some h)
  have HJ1 := Lib.hid (has_join_left rs ts (apply ls q))
  have HJ2 := Lib.hid (has_join_right rs ts (apply ls q))
  have HJs := Lib.hid (join_self rs)
  clear H1 H2 H3 H3b H4 h1 h2 h3 h3b h4
  replace ha := ha.below hb1
  replace hr := hr.below hb1
  replace ht := ht.below hb1
  replace hb := hb.below hb1
  go_wp2_with fail
  refine (join_any R nt cr rs T ct ts _ hr ht (by omega) hn1).mono ?_
  rintro e w3 ⟨v3, rfl, ho3, hbz⟩
  replace ha := ha.below hbz
  replace hr := hr.below hbz
  replace ht := ht.below hbz
  replace hb := hb.below hbz
  replace hb1 := bstep hb1 hbz
  clear hbz
  obtain ⟨Aj, cj, rfl, hcj, hmj, hj⟩ := ho3.form
  rw [HLj.out] at hj hcj ⊢
  clear ho3
  go_wp2_with fail
  refine (apply_any A nt c ls B m d q _ ha hb (by omega) (by omega) HLY.out.ok HQ.out).mono ?_
  rintro e w4 ⟨v4, rfl, ho4, hbz⟩
  replace ha := ha.below hbz
  replace hr := hr.below hbz
  replace ht := ht.below hbz
  replace hb := hb.below hbz
  replace hj := hj.below hbz
  replace hb1 := bstep hb1 hbz
  clear hbz
  obtain ⟨As, cs, rfl, hcs, hms, hs⟩ := ho4.form
  rw [length_iv, HLs.out] at hs hcs ⊢
  clear ho4
  go_wp2_with fail
  refine (boundM_any M HM.out A nt c ls Aj cj (join rs ts) B m d q _ ha hj hb (by omega) (by omega) HLY.out.ok HLY.out.some HPj.out HQ.out).mono ?_
  rintro e w5 ⟨rfl, hbz⟩
  replace ha := ha.below hbz
  replace hr := hr.below hbz
  replace ht := ht.below hbz
  replace hb := hb.below hbz
  replace hj := hj.below hbz
  replace hs := hs.below hbz
  replace hb1 := bstep hb1 hbz
  clear hbz
  go_wp2_with fail
  refine (boundM_any M HM.out A nt c ls R cr rs B m d q _ ha hr hb (by omega) (by omega) HLY.out.ok HLY.out.some HRY.out.2.2 HQ.out).mono ?_
  rintro e w6 ⟨rfl, hbz⟩
  replace ha := ha.below hbz
  replace hr := hr.below hbz
  replace ht := ht.below hbz
  replace hb := hb.below hbz
  replace hj := hj.below hbz
  replace hs := hs.below hbz
  replace hb1 := bstep hb1 hbz
  clear hbz
  go_wp2_with fail
  refine (boundM_any M HM.out A nt c ls T ct ts B m d q _ ha ht hb (by omega) (by omega) HLY.out.ok HLY.out.some HTY.out.2.2 HQ.out).mono ?_
  rintro e w7 ⟨rfl, hbz⟩
  replace ha := ha.below hbz
  replace hr := hr.below hbz
  replace ht := ht.below hbz
  replace hb := hb.below hbz
  replace hj := hj.below hbz
  replace hs := hs.below hbz
  replace hb1 := bstep hb1 hbz
  clear hbz
  have hle1 := HB1.out
  have hle2 := HB2.out
  rw [← HJc.out] at hle2
  have HBr := Lib.hid (show bound M ls rs q = bound M ls rs q from rfl)
  generalize hbj : bound M ls (join rs ts) q = bj at *
  generalize hbr : bound M ls rs q = br at *
  generalize hbt : bound M ls ts q = bt at *
  have HBR := Lib.hid hbr
  clear hbj hbr hbt HBr
  have hnlt : ¬ min br bt < bj := by omega
  have hnd : decide (min br bt < bj) = false := decide_eq_false hnlt
  go_wp2_with fail
  refine (has_any R nt cr rs As cs _ _ hr hs (by omega)).mono ?_
  rintro e w8 ⟨rfl, hbz⟩
  replace ha := ha.below hbz
  replace hr := hr.below hbz
  replace ht := ht.below hbz
  replace hb := hb.below hbz
  replace hj := hj.below hbz
  replace hs := hs.below hbz
  replace hb1 := bstep hb1 hbz
  clear hbz
  cases hX : has rs (apply ls q)
  · go_wp2_with fail
    refine (has_any T nt ct ts As cs _ _ ht hs (by omega)).mono ?_
    rintro e w9 ⟨rfl, hbz⟩
    replace ha := ha.below hbz
    replace hr := hr.below hbz
    replace ht := ht.below hbz
    replace hb := hb.below hbz
    replace hj := hj.below hbz
    replace hs := hs.below hbz
    replace hb1 := bstep hb1 hbz
    clear hbz
    cases hY : has ts (apply ls q)
    · go_wp2_with fail
      refine (sanity_any _ (HG.out.below hb1)).mono ?_
      rintro e w10 ⟨rfl, hbz⟩
      replace ha := ha.below hbz
      replace hr := hr.below hbz
      replace ht := ht.below hbz
      replace hb := hb.below hbz
      replace hj := hj.below hbz
      replace hs := hs.below hbz
      replace hb1 := bstep hb1 hbz
      clear hbz
      go_wp2_with fail
      refine (has_any R nt cr rs As cs _ _ hr hs (by omega)).mono ?_
      rintro e w12 ⟨rfl, hbz⟩
      rw [hX]
      replace ha := ha.below hbz
      replace hr := hr.below hbz
      replace ht := ht.below hbz
      replace hb := hb.below hbz
      replace hj := hj.below hbz
      replace hs := hs.below hbz
      replace hb1 := bstep hb1 hbz
      clear hbz
      go_wp2_with fail
      refine (join_any R nt cr rs R cr rs _ hr hr (by omega) hn1).mono ?_
      rintro e w14 ⟨v14, rfl, ho14, hbz⟩
      replace ha := ha.below hbz
      replace hr := hr.below hbz
      replace ht := ht.below hbz
      replace hb := hb.below hbz
      replace hj := hj.below hbz
      replace hs := hs.below hbz
      replace hb1 := bstep hb1 hbz
      clear hbz
      rw [HJs.out] at ho14
      obtain ⟨A14, c14, rfl, hc14, hm14, hr14⟩ := ho14.form
      rw [HLr.out] at hr14 hc14 ⊢
      clear ho14
      go_wp2_with fail
      refine (samePairs_any A14 nt c14 rs R nt cr rs _ hr14 hr (by omega) (by omega)).mono ?_
      rintro e w15 ⟨rfl, hbz⟩
      rw [decide_eq_true rfl]
      replace ha := ha.below hbz
      replace hr := hr.below hbz
      replace ht := ht.below hbz
      replace hb := hb.below hbz
      replace hj := hj.below hbz
      replace hs := hs.below hbz
      replace hb1 := bstep hb1 hbz
      clear hbz
      go_wp2_with fail
      go_ret
      exact ⟨rfl, hb1⟩
    · have hXj := HJ2.out hY
      go_wp2_with fail
      refine (sanity_any _ (HG.out.below hb1)).mono ?_
      rintro e w10 ⟨rfl, hbz⟩
      replace ha := ha.below hbz
      replace hr := hr.below hbz
      replace ht := ht.below hbz
      replace hb := hb.below hbz
      replace hj := hj.below hbz
      replace hs := hs.below hbz
      replace hb1 := bstep hb1 hbz
      clear hbz
      go_wp2_with fail
      refine (has_any Aj nt cj (join rs ts) As cs _ _ hj hs (by omega)).mono ?_
      rintro e w11 ⟨rfl, hbz⟩
      rw [hXj]
      replace ha := ha.below hbz
      replace hr := hr.below hbz
      replace ht := ht.below hbz
      replace hb := hb.below hbz
      replace hj := hj.below hbz
      replace hs := hs.below hbz
      replace hb1 := bstep hb1 hbz
      clear hbz
      go_wp2_with fail
      refine (has_any R nt cr rs As cs _ _ hr hs (by omega)).mono ?_
      rintro e w12 ⟨rfl, hbz⟩
      rw [hX]
      replace ha := ha.below hbz
      replace hr := hr.below hbz
      replace ht := ht.below hbz
      replace hb := hb.below hbz
      replace hj := hj.below hbz
      replace hs := hs.below hbz
      replace hb1 := bstep hb1 hbz
      clear hbz
      go_wp2_with fail
      refine (join_any R nt cr rs R cr rs _ hr hr (by omega) hn1).mono ?_
      rintro e w14 ⟨v14, rfl, ho14, hbz⟩
      replace ha := ha.below hbz
      replace hr := hr.below hbz
      replace ht := ht.below hbz
      replace hb := hb.below hbz
      replace hj := hj.below hbz
      replace hs := hs.below hbz
      replace hb1 := bstep hb1 hbz
      clear hbz
      rw [HJs.out] at ho14
      obtain ⟨A14, c14, rfl, hc14, hm14, hr14⟩ := ho14.form
      rw [HLr.out] at hr14 hc14 ⊢
      clear ho14
      go_wp2_with fail
      refine (samePairs_any A14 nt c14 rs R nt cr rs _ hr14 hr (by omega) (by omega)).mono ?_
      rintro e w15 ⟨rfl, hbz⟩
      rw [decide_eq_true rfl]
      replace ha := ha.below hbz
      replace hr := hr.below hbz
      replace ht := ht.below hbz
      replace hb := hb.below hbz
      replace hj := hj.below hbz
      replace hs := hs.below hbz
      replace hb1 := bstep hb1 hbz
      clear hbz
      go_wp2_with fail
      go_ret
      exact ⟨rfl, hb1⟩
  · have hXj := HJ1.out hX
    go_wp2_with fail
    refine (sanity_any _ (HG.out.below hb1)).mono ?_
    rintro e w10 ⟨rfl, hbz⟩
    replace ha := ha.below hbz
    replace hr := hr.below hbz
    replace ht := ht.below hbz
    replace hb := hb.below hbz
    replace hj := hj.below hbz
    replace hs := hs.below hbz
    replace hb1 := bstep hb1 hbz
    clear hbz
    go_wp2_with fail
    refine (has_any Aj nt cj (join rs ts) As cs _ _ hj hs (by omega)).mono ?_
    rintro e w11 ⟨rfl, hbz⟩
    rw [hXj]
    replace ha := ha.below hbz
    replace hr := hr.below hbz
    replace ht := ht.below hbz
    replace hb := hb.below hbz
    replace hj := hj.below hbz
    replace hs := hs.below hbz
    replace hb1 := bstep hb1 hbz
    clear hbz
    go_wp2_with fail
    refine (has_any R nt cr rs As cs _ _ hr hs (by omega)).mono ?_
    rintro e w12 ⟨rfl, hbz⟩
    rw [hX]
    replace ha := ha.below hbz
    replace hr := hr.below hbz
    replace ht := ht.below hbz
    replace hb := hb.below hbz
    replace hj := hj.below hbz
    replace hs := hs.below hbz
    replace hb1 := bstep hb1 hbz
    clear hbz
    go_wp2_with fail
    refine (boundM_any M HM.out A nt c ls R cr rs B m d q _ ha hr hb (by omega) (by omega) HLY.out.ok HLY.out.some HRY.out.2.2 HQ.out).mono ?_
    rintro e w13 ⟨rfl, hbz⟩
    rw [HBR.out, HBh.out hX]
    replace ha := ha.below hbz
    replace hr := hr.below hbz
    replace ht := ht.below hbz
    replace hb := hb.below hbz
    replace hj := hj.below hbz
    replace hs := hs.below hbz
    replace hb1 := bstep hb1 hbz
    clear hbz
    go_wp2_with fail
    refine (join_any R nt cr rs R cr rs _ hr hr (by omega) hn1).mono ?_
    rintro e w14 ⟨v14, rfl, ho14, hbz⟩
    replace ha := ha.below hbz
    replace hr := hr.below hbz
    replace ht := ht.below hbz
    replace hb := hb.below hbz
    replace hj := hj.below hbz
    replace hs := hs.below hbz
    replace hb1 := bstep hb1 hbz
    clear hbz
    rw [HJs.out] at ho14
    obtain ⟨A14, c14, rfl, hc14, hm14, hr14⟩ := ho14.form
    rw [HLr.out] at hr14 hc14 ⊢
    clear ho14
    go_wp2_with fail
    refine (samePairs_any A14 nt c14 rs R nt cr rs _ hr14 hr (by omega) (by omega)).mono ?_
    rintro e w15 ⟨rfl, hbz⟩
    rw [decide_eq_true rfl]
    replace ha := ha.below hbz
    replace hr := hr.below hbz
    replace ht := ht.below hbz
    replace hb := hb.below hbz
    replace hj := hj.below hbz
    replace hs := hs.below hbz
    replace hb1 := bstep hb1 hbz
    clear hbz
    go_wp2_with fail
    go_ret
    exact ⟨rfl, hb1⟩
end Go.Proofs.YtcehaojohfbfkaaDoor
