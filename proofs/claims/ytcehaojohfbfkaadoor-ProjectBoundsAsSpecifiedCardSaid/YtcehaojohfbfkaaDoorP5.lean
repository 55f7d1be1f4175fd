/-
  The law ProjectBoundsAsSpecified, walked. Condition: the table of constants reads as the program lays it.
-/
import Derived.Test.YtcehaojohfbfkaaDoorYes
namespace Go.Proofs.YtcehaojohfbfkaaDoor
set_option linter.unusedSimpArgs false
set_option linter.unusedVariables false
open Go.RowKit Proj
set_option maxRecDepth 20000 in
set_option maxHeartbeats 4000000 in
theorem walkProjectBoundsAsSpecified (M : Int) (A : Option Addr) (n c : Nat) (ls : List (List Int)) (R : Option Addr) (nr cr : Nat) (rs : List (Int × Int)) (B : Option Addr) (m d : Nat) (q : List Int) (w : World)
    (f0 : (Lit.int .i64 M).wf = true) (x1 : n ≤ c) (y1 : c ≤ maxLen) (ha : RdR w A n ls) (e1 : ∀ l ∈ ls, ∀ z ∈ l, (Lit.int .i64 z).wf = true) (x2 : nr ≤ cr) (y2 : cr ≤ maxLen) (hr : RdP w R nr rs) (e2 : ∀ r ∈ rs, (Lit.int .i64 r.1).wf = true ∧ (Lit.int .i64 r.2).wf = true)
    (x3 : m ≤ d) (y3 : d ≤ maxLen) (z3 : q.length = m) (hb : Rd w B m (iv q)) (e3 : ∀ z ∈ q, (Lit.int .i64 z).wf = true) (hg : GCon w) :
    Calls Tryd.prog 5 #[.int .i64 M, .slice A n c, .slice R nr cr, .slice B m d] w fun e w' => e = .returned (.bool true) ∧ Below w.heap.size w w' := by
  have hn := Nat.le_trans x1 y1
  have hnr := Nat.le_trans x2 y2
  have hm := Nat.le_trans x3 y3
  clear f0 e1 e2 e3 x1 y1 x2 y2 x3 y3 z3
  have HLa := Lib.hid ha.len
  have HLr := Lib.hid hr.len
  have HLq := Lib.hid (show q.length = m by have := hb.len; simpa using this)
  have HG := Lib.hid hg
  clear hg
  simp only [maxLen] at hn hnr hm
  have H1 := Lib.hid (refValid_any B m d q w (by omega) hb)
  have H2 := Lib.hid (refLinesValid_any A n c ls m w ha (by omega))
  have H3 := Lib.hid (ranges_any R nr cr rs n w hr (by omega))
  have H4 := Lib.hid (fun W => refMetric_any M W)
  go_enter Tryd.func5, Tryd.ntmps5
  go_wp2_with fail
  refine H1.out.mono ?_
  rintro e w1 ⟨rfl, rfl⟩
  cases h1 : vecB q
  · go_wp2_with fail
    refine (sanity_any _ HG.out).mono ?_
    rintro e w1 ⟨rfl, hb1⟩
    go_wp2_with fail
    go_ret
    exact ⟨rfl, hb1⟩
  go_wp2_with fail
  refine H2.out.mono ?_
  rintro e w1 ⟨rfl, rfl⟩
  cases h2 : linesB ls m
  · go_wp2_with fail
    refine (sanity_any _ HG.out).mono ?_
    rintro e w1 ⟨rfl, hb1⟩
    go_wp2_with fail
    go_ret
    exact ⟨rfl, hb1⟩
  go_wp2_with fail
  refine H3.out.mono ?_
  rintro e w1 ⟨rfl, hb1⟩
  cases h3 : rangesB rs n
  · go_wp2_with fail
    refine (sanity_any _ (HG.out.below hb1)).mono ?_
    rintro e w2 ⟨rfl, hb2⟩
    go_wp2_with fail
    go_ret
    exact ⟨rfl, bstep hb1 hb2⟩
  go_wp2_with fail
  refine (H4.out _).mono ?_
  rintro e w2 ⟨rfl, rfl⟩
  cases h4 : decide (1 ≤ M ∧ M ≤ 3)
  · go_wp2_with fail
    refine (sanity_any _ (HG.out.below hb1)).mono ?_
    rintro e w2 ⟨rfl, hb2⟩
    go_wp2_with fail
    go_ret
    exact ⟨rfl, bstep hb1 hb2⟩
  have hM := of_decide_eq_true h4
  have HM := Lib.hid hM
  have HLY := Lib.hid (linesB_yes h2)
  have HRY := Lib.hid (rangesB_yes h3)
  have HQ := Lib.hid (vec_le h1)
  have hnr2 : nr = n := by have := HRY.out.1; rw [HLr.out] at this; exact this
  subst hnr2
  clear H1 H2 H3 H4 h1 h2 h3 h4 hM
  go_wp2_with fail
  refine (sanity_any _ (HG.out.below hb1)).mono ?_
  rintro e w2 ⟨rfl, hb2⟩
  replace hb1 := bstep hb1 hb2
  go_wp2_with fail
  refine (boundM_any M HM.out A nr c ls R cr rs B m d q _ (ha.below hb1) (hr.below hb1) (hb.below hb1) (by have := HLY.out.n8; rw [HLa.out] at this; omega) (by have := HLY.out.d32; omega) HLY.out.ok HLY.out.some HRY.out.2.2 HQ.out).mono ?_
  rintro e w3 ⟨rfl, hb3⟩
  replace hb1 := bstep hb1 hb3
  go_wp2_with fail
  refine (refBoundM_any M HM.out A nr c ls R cr rs B m d q _ (ha.below hb1) (hr.below hb1) (hb.below hb1) (by have := HLY.out.n8; rw [HLa.out] at this; omega) (by have := HLY.out.d32; omega) HLY.out.ok HLY.out.some HRY.out.2.2 HQ.out).mono ?_
  rintro e w4 ⟨rfl, hb4⟩
  replace hb1 := bstep hb1 hb4
  generalize bound M ls rs q = b at *
  go_wp2_with fail
  go_ret
  exact ⟨by simp, hb1⟩
end Go.Proofs.YtcehaojohfbfkaaDoor
