/-
  The law ProjectForgetsScale, walked. Condition: the table of constants reads as the program lays it.
-/
import Derived.Test.YtcehaojohfbfkaaDoorTw
namespace Go.Proofs.YtcehaojohfbfkaaDoor
set_option linter.unusedSimpArgs false
set_option linter.unusedVariables false
open Go.RowKit Proj
def scaleR (f : Int) (r : Int × Int) : Int × Int := (f * r.1, f * r.2)
theorem RdR.take {w : World} {A : Option Addr} {n k : Nat} {ls : List (List Int)} (h : RdR w A n ls) (hk : k ≤ n) : RdR w A k (ls.take k) := by
  refine ⟨by rw [List.length_take, h.len]; omega, fun j hj => ?_⟩
  rw [List.length_take] at hj
  obtain ⟨ad, B, c, rfl, h2⟩ := h.row j (by omega)
  refine ⟨ad, B, c, rfl, ?_⟩
  simpa using h2
theorem RdP.take {w : World} {A : Option Addr} {n k : Nat} {rs : List (Int × Int)} (h : RdP w A n rs) (hk : k ≤ n) : RdP w A k (rs.take k) := by
  refine ⟨by rw [List.length_take, h.len]; omega, fun j hj => ?_⟩
  rw [List.length_take] at hj
  obtain ⟨ad, rfl, h2⟩ := h.cell j (by omega)
  refine ⟨ad, rfl, ?_⟩
  simpa using h2
theorem LinesYes.take1 {ls : List (List Int)} {d : Nat} (h : LinesYes ls d) : LinesOk (ls.take 1) d ∧ ∀ l ∈ ls.take 1, some0 l :=
  ⟨⟨fun l hl => h.ok.len l (List.mem_of_mem_take hl), fun l hl => h.ok.le l (List.mem_of_mem_take hl)⟩, fun l hl => h.some l (List.mem_of_mem_take hl)⟩
theorem times_small {f x : Int} (hf : 1 ≤ f ∧ f ≤ 16) (hx : ab x ≤ 16) : ab (f * x) ≤ 256 := mul_small (A := 16) (B := 16) (by unfold ab; omega) hx
theorem scale_small {f x : Int} (hf : 1 ≤ f ∧ f ≤ 16) (h1 : -67108864 ≤ x) (h2 : x ≤ 67108864) : -1073741824 ≤ f * x ∧ f * x ≤ 1073741824 := by
  have := mul_small (x := f) (y := x) (A := 16) (B := 67108864) (by unfold ab; omega) (by unfold ab; omega)
  unfold ab at this
  omega
theorem linesOk_times {f : Int} (hf : 1 ≤ f ∧ f ≤ 16) {ls : List (List Int)} {d : Nat} (h : LinesYes ls d) : LinesOk (ls.map (times f)) d := by
  constructor
  · intro l hl
    simp only [List.mem_map] at hl
    obtain ⟨l0, h0, rfl⟩ := hl
    simpa [times] using h.ok.len l0 h0
  · intro l hl x hx
    simp only [List.mem_map] at hl
    obtain ⟨l0, h0, rfl⟩ := hl
    simp only [times, List.mem_map] at hx
    obtain ⟨x0, hx0, rfl⟩ := hx
    have := times_small hf (h.le16 l0 h0 x0 hx0)
    omega
theorem some0_times {f : Int} (hf : 1 ≤ f) {ls : List (List Int)} (h : ∀ l ∈ ls, some0 l) : ∀ l ∈ ls.map (times f), some0 l := by
  intro l hl
  simp only [List.mem_map] at hl
  obtain ⟨l0, h0, rfl⟩ := hl
  obtain ⟨x, hx, hne⟩ := h l0 h0
  exact ⟨f * x, by simp only [times, List.mem_map]; exact ⟨x, hx, rfl⟩, Int.mul_ne_zero (by omega) hne⟩
set_option maxRecDepth 20000 in
set_option maxHeartbeats 8000000 in
theorem walkProjectForgetsScale (M : Int) (A : Option Addr) (n c : Nat) (ls : List (List Int)) (R : Option Addr) (nr cr : Nat) (rs : List (Int × Int)) (B : Option Addr) (m d : Nat) (q : List Int) (F : Int) (w : World)
    (f0 : (Lit.int .i64 M).wf = true) (x1 : n ≤ c) (y1 : c ≤ maxLen) (ha : RdR w A n ls) (e1 : ∀ l ∈ ls, ∀ z ∈ l, (Lit.int .i64 z).wf = true) (x2 : nr ≤ cr) (y2 : cr ≤ maxLen) (hr : RdP w R nr rs) (e2 : ∀ r ∈ rs, (Lit.int .i64 r.1).wf = true ∧ (Lit.int .i64 r.2).wf = true)
    (x3 : m ≤ d) (y3 : d ≤ maxLen) (z3 : q.length = m) (hb : Rd w B m (iv q)) (e3 : ∀ z ∈ q, (Lit.int .i64 z).wf = true) (f4 : (Lit.int .u8 F).wf = true) (hg : GCon w) :
    Calls Tryd.prog 7 #[.int .i64 M, .slice A n c, .slice R nr cr, .slice B m d, .int .u8 F] w fun e w' => e = .returned (.bool true) ∧ Below w.heap.size w w' := by
  have hF : 0 ≤ F ∧ F ≤ 255 := by
    simp [Lit.wf, IntKind.min, IntKind.max, IntKind.bits, IntKind.signed] at f4
    omega
  obtain ⟨hF0, hF1⟩ := hF
  have HC1 := Lib.hid x1
  have HC2 := Lib.hid x2
  have hn := Nat.le_trans x1 y1
  have hnr := Nat.le_trans x2 y2
  have hm := Nat.le_trans x3 y3
  clear f0 e1 e2 e3 x1 y1 x2 y2 x3 y3 z3 f4
  have HLa := Lib.hid ha.len
  have HLr := Lib.hid hr.len
  have HLq := Lib.hid (show q.length = m by have := hb.len; simpa using this)
  have HG := Lib.hid hg
  clear hg
  simp only [maxLen] at hn hnr hm
  have H1 := Lib.hid (refValid_any B m d q w (by omega) hb)
  have H2 := Lib.hid (refLinesValid_any A n c ls m w ha (by omega))
  have H3 := Lib.hid (ranges_any R nr cr rs n w hr (by omega))
  have H4 := Lib.hid (fun W => refMetric_any M W)
  have hq16 : Int.tmod F 16 = F % 16 := Int.tmod_eq_emod_of_nonneg hF0
  go_enter Tryd.func7, Tryd.ntmps7
  go_wp2_with fail
  refine H1.out.mono ?_
  rintro e w1 ⟨rfl, rfl⟩
  cases h1 : vecB q
  · go_wp2_with fail
    refine (sanity_any _ HG.out).mono ?_
    rintro e w1 ⟨rfl, hb1⟩
    go_wp2_with fail
    go_ret
    exact ⟨rfl, hb1⟩
  go_wp2_with fail
  refine H2.out.mono ?_
  rintro e w1 ⟨rfl, rfl⟩
  cases h2 : linesB ls m
  · go_wp2_with fail
    refine (sanity_any _ HG.out).mono ?_
    rintro e w1 ⟨rfl, hb1⟩
    go_wp2_with fail
    go_ret
    exact ⟨rfl, hb1⟩
  go_wp2_with fail
  refine H3.out.mono ?_
  rintro e w1 ⟨rfl, hb1⟩
  cases h3 : rangesB rs n
  · go_wp2_with fail
    refine (sanity_any _ (HG.out.below hb1)).mono ?_
    rintro e w2 ⟨rfl, hb2⟩
    go_wp2_with fail
    go_ret
    exact ⟨rfl, bstep hb1 hb2⟩
  go_wp2_with fail
  refine (H4.out _).mono ?_
  rintro e w2 ⟨rfl, rfl⟩
  cases h4 : decide (1 ≤ M ∧ M ≤ 3)
  · go_wp2_with fail
    refine (sanity_any _ (HG.out.below hb1)).mono ?_
    rintro e w2 ⟨rfl, hb2⟩
    go_wp2_with fail
    go_ret
    exact ⟨rfl, bstep hb1 hb2⟩
  have HM := Lib.hid (of_decide_eq_true h4)
  have HLY := Lib.hid (linesB_yes h2)
  have HRY := Lib.hid (rangesB_yes h3)
  have HQ := Lib.hid (vec_le h1)
  obtain rfl : nr = n := by have := HRY.out.1; rw [HLr.out] at this; exact this
  have hn8 : nr ≤ 8 := by have := HLY.out.n8; rw [HLa.out] at this; exact this
  have hn1 : 0 < nr := by have := HLY.out.n1; rw [HLa.out] at this; omega
  have hm32 : m ≤ 32 := HLY.out.d32
  clear H1 H2 H3 H4 h1 h2 h3 h4
  obtain ⟨f, hf⟩ : ∃ f, f = 1 + F % 16 := ⟨_, rfl⟩
  have HF := Lib.hid (show 1 ≤ f ∧ f ≤ 16 by omega)
  have hf1 : 1 ≤ f := HF.out.1
  have hf2 : f ≤ 16 := HF.out.2
  have hff : 1 + F % 16 = f := hf.symm
  clear hf
  go_wp2_with fail
  go_loopw [12, 13, 14, 15, 16, 18, 49] (fun vm vw _ _ _ _ j wr => ∃ k : Nat, k ≤ nr ∧ j = .int .i64 k ∧ Below w.heap.size w wr ∧ OwnR wr w.heap.size vm ((ls.take k).map (times f)) ∧ OwnP wr w.heap.size vw ((rs.take k).map (scaleR f)) ∧ Hid (∀ r ∈ rs.take k, -67108864 ≤ r.1 ∧ r.2 ≤ 67108864)) (fun _ _ _ _ _ _ j _ => nr - (intOf j).toNat)
  case atStart => exact ⟨0, Nat.zero_le _, rfl, hb1, OwnR.nil _ _, OwnP.nil _ _, Lib.hid (by simp)⟩
  case round =>
    clear hb1
    obtain ⟨k, hk, rfl, hbw, hmore, hwide, hpre⟩ := hrel
    by_cases hlt : k < nr
    · obtain ⟨ad, L, cl, rfl, hc, hlc, hcm, hrl⟩ := (ha.below hbw).row k (by have := HLa.out; omega)
      obtain ⟨rd, rfl, hr0, hr1⟩ := hr.get k (by have := HLr.out; omega)
      have HT := Lib.hid (List.take_succ_eq_append_getElem (show k < ls.length by have := HLa.out; omega))
      have HTr := Lib.hid (List.take_succ_eq_append_getElem (show k < rs.length by have := HLr.out; omega))
      have HM1 := Lib.hid (List.getElem_mem (show k < ls.length by have := HLa.out; omega))
      have HM2 := Lib.hid (HRY.out.2.1 _ (List.getElem_mem (show k < rs.length by have := HLr.out; omega)))
      generalize ls[k]'(by have := HLa.out; omega) = l at *
      generalize rs[k]'(by have := HLr.out; omega) = r at *
      obtain ⟨lo, hi⟩ := r
      dsimp only at *
      have HLl := Lib.hid (HLY.out.ok.len l HM1.out)
      have HLe := Lib.hid (HLY.out.le16 l HM1.out)
      have hll : l.length ≤ 32 := by have := HLl.out; omega
      obtain ⟨wo, rfl⟩ : ∃ wo : World, wo = wr := ⟨_, rfl⟩
      go_wp2_with fail
      go_loopw [16, 18, 56] (fun u _ j w2 => ∃ i : Nat, i ≤ l.length ∧ j = .int .i64 i ∧ Below wo.heap.size wo w2 ∧ Own w2 wo.heap.size 3 u (iv (times f (l.take i)))) (fun _ _ j _ => l.length - (intOf j).toNat)
      case atStart => exact ⟨0, Nat.zero_le _, rfl, Below.refl _ _, Own.nil _ _ _⟩
      case round =>
        obtain ⟨i, hi', rfl, hb2, hm⟩ := hrel
        by_cases hlt2 : i < l.length
        · obtain ⟨ld, rfl, hx⟩ := (hrl.below hb2).int hlt2 rfl
          have HTi := Lib.hid (List.take_succ_eq_append_getElem hlt2)
          have HXs := Lib.hid (times_small HF.out (HLe.out _ (List.getElem_mem hlt2)))
          have HLt : Hid ((iv (times f (l.take i))).length = i) := Lib.hid (by simp [times]; omega)
          generalize l[i] = x at *
          have HS : Hid (iv (times f (l.take (i + 1))) = iv (times f (l.take i)) ++ [.int .i64 (f * x)]) := Lib.hid (by rw [HTi.out]; simp [times, iv])
          have hfx1 : -256 ≤ f * x := by have := HXs.out; unfold ab at this; omega
          have hfx2 : f * x ≤ 256 := by have := HXs.out; unfold ab at this; omega
          go_wp2_with (at_builtin; refine wpList_app rfl rfl elemI rfl (hm.alloc _) rfl (Rd.new1 _ _ _) (one1 rfl) (by rw [HLt.out]; omega) (by have := hb2.size; simp; omega) ?_; intro v' w' hm2 _ hb3 _)
          rw [← HS.out] at hm2
          exact ⟨⟨i + 1, by omega, by go_num, (hb2.alloc hb2.size _).trans hb3, hm2⟩, by simp [intOf]; omega⟩
        · obtain rfl : i = l.length := by omega
          rw [List.take_of_length_le (Nat.le_refl _)] at hm
          have hbw2 := hbw.trans (hb2.mono hbw.size)
          replace hmore := hmore.below hb2
          replace hwide := hwide.below hb2
          replace hm := hm.lower hbw.size
          have hr0w := cell_below hbw2 hr0
          have hr1w := cell_below hbw2 hr1
          by_cases c1 : lo < -67108864
          · go_wp2_with fail
            refine (sanity_any _ (HG.out.below hbw2)).mono ?_
            rintro e w3 ⟨rfl, hb3⟩
            go_wp2_with fail
            go_ret
            exact ⟨rfl, bstep hbw2 hb3⟩
          by_cases c2 : 67108864 < hi
          · go_wp2_with fail
            refine (sanity_any _ (HG.out.below hbw2)).mono ?_
            rintro e w3 ⟨rfl, hb3⟩
            go_wp2_with fail
            go_ret
            exact ⟨rfl, bstep hbw2 hb3⟩
          have hle := HM2.out
          obtain ⟨s1, s2⟩ := scale_small HF.out (x := lo) (by omega) (by omega)
          obtain ⟨s3, s4⟩ := scale_small HF.out (x := hi) (by omega) (by omega)
          have HNm := Lib.hid (show (ls.take (k + 1)).map (times f) = (ls.take k).map (times f) ++ [times f l] by rw [HT.out]; simp)
          have HNw := Lib.hid (show (rs.take (k + 1)).map (scaleR f) = (rs.take k).map (scaleR f) ++ [(f * lo, f * hi)] by rw [HTr.out]; simp [scaleR])
          have HNp : Hid (∀ r ∈ rs.take (k + 1), -67108864 ≤ r.1 ∧ r.2 ≤ 67108864) := Lib.hid (by
            rw [HTr.out]
            intro x hx
            rcases List.mem_append.1 hx with hx | hx
            · exact hpre.out x hx
            · simp at hx; subst hx; exact ⟨by simp; omega, by simp; omega⟩)
          have HK1 : Hid (((ls.take k).map (times f)).length ≤ 1000) := Lib.hid (by simp; omega)
          have HK2 : Hid (((rs.take k).map (scaleR f)).length ≤ 1000) := Lib.hid (by simp; omega)
          clear hle
          go_wp2_with fail
          have hS0 : Below wr.heap.size wr wr.drew := (Below.refl _ wr).drew
          replace hmore := hmore.below hS0
          replace hwide := hwide.below hS0
          replace hm := hm.below hS0
          replace hbw2 := hbw2.trans (hS0.mono hbw2.size)
          clear hS0
          refine wp_region_TB (S := Below (w).heap.size (w)) 23 (by kernel_rfl) ?_
          -- region 17: 24 operations, tail from 23
          refine WpT.take (i := 0) rfl (by kernel_rfl) (fun _ _ _ h => h) (.inl ⟨by rfl, fun w hSw => by clear hSw; go_simp; (try go_bits); (try rw [if_pos (by omega)]); (try with_reducible rfl)⟩) (hbw2) ?_
          try simp only [Act.put, List.setIfInBounds_toArray, List.set_cons_zero, List.set_cons_succ]
          refine WpT.take (i := 1) rfl (by kernel_rfl) (fun _ _ _ h => h) (.inl ⟨by rfl, fun w hSw => by clear hSw; go_simp; (try go_bits); (try rw [if_pos (by omega)]); (try with_reducible rfl)⟩) (hbw2) ?_
          try simp only [Act.put, List.setIfInBounds_toArray, List.set_cons_zero, List.set_cons_succ]
          refine WpT.take (i := 4) rfl (by kernel_rfl) (fun _ _ _ h => h) (.inl ⟨by rfl, fun w hSw => by clear hSw; go_simp; (try go_bits); (try rw [if_pos (by omega)]); (try with_reducible rfl)⟩) (hbw2) ?_
          try simp only [Act.put, List.setIfInBounds_toArray, List.set_cons_zero, List.set_cons_succ]
          refine WpT.take (i := 5) rfl (by kernel_rfl) (fun _ _ _ h => h) (.inl ⟨by rfl, fun w hSw => by clear hSw; go_simp; (try go_bits); (try rw [if_pos (by omega)]); (try with_reducible rfl)⟩) (hbw2) ?_
          try simp only [Act.put, List.setIfInBounds_toArray, List.set_cons_zero, List.set_cons_succ]
          refine WpT.take (i := 6) rfl (by kernel_rfl) (fun _ _ _ h => h) (.inl ⟨by rfl, fun w hSw => by clear hSw; go_simp; (try go_bits); (try rw [if_pos (by omega)]); (try with_reducible rfl)⟩) (hbw2) ?_
          try simp only [Act.put, List.setIfInBounds_toArray, List.set_cons_zero, List.set_cons_succ]
          refine WpT.take (i := 7) rfl (by kernel_rfl) (fun _ _ _ h => h) (.inl ⟨by rfl, fun w hSw => by clear hSw; go_simp; (try go_bits); (try rw [if_pos (by omega)]); (try with_reducible rfl)⟩) (hbw2) ?_
          try simp only [Act.put, List.setIfInBounds_toArray, List.set_cons_zero, List.set_cons_succ]
          refine WpT.take (i := 8) rfl (by kernel_rfl) (fun _ _ _ h => h) (.inl ⟨by rfl, fun w hSw => by clear hSw; go_simp; (try go_bits); (try rw [if_pos (by omega)]); (try with_reducible rfl)⟩) (hbw2) ?_
          try simp only [Act.put, List.setIfInBounds_toArray, List.set_cons_zero, List.set_cons_succ]
          refine WpT.take (i := 9) rfl (by kernel_rfl) (fun _ _ _ h => h) (.inl ⟨by rfl, fun w hSw => by clear hSw; go_simp; (try go_bits); (try rw [if_pos (by omega)]); (try with_reducible rfl)⟩) (hbw2) ?_
          try simp only [Act.put, List.setIfInBounds_toArray, List.set_cons_zero, List.set_cons_succ]
          refine WpT.take (i := 10) rfl (by kernel_rfl) (fun _ _ _ h => h) (yields_load rfl rfl rfl (by kernel_rfl) (by assumption)) (hbw2) ?_
          try simp only [Act.put, List.setIfInBounds_toArray, List.set_cons_zero, List.set_cons_succ]
          refine WpT.take (i := 11) rfl (by kernel_rfl) (fun _ _ _ h => h) (.inl ⟨by rfl, fun w hSw => by clear hSw; go_simp; (try go_bits); (try rw [if_pos (by omega)]); (try with_reducible rfl)⟩) (hbw2) ?_
          try simp only [Act.put, List.setIfInBounds_toArray, List.set_cons_zero, List.set_cons_succ]
          refine WpT.take (i := 12) rfl (by kernel_rfl) (fun _ _ _ h => h) (.inl ⟨by rfl, fun w hSw => by clear hSw; go_simp; (try go_bits); (try rw [if_pos (by omega)]); (try with_reducible rfl)⟩) (hbw2) ?_
          try simp only [Act.put, List.setIfInBounds_toArray, List.set_cons_zero, List.set_cons_succ]
          refine WpT.take (i := 13) rfl (by kernel_rfl) (fun _ _ _ h => h) (.inl ⟨by rfl, fun w hSw => by clear hSw; go_simp; (try go_bits); (try rw [if_pos (by omega)]); (try with_reducible rfl)⟩) (hbw2) ?_
          try simp only [Act.put, List.setIfInBounds_toArray, List.set_cons_zero, List.set_cons_succ]
          refine WpT.take (i := 14) rfl (by kernel_rfl) (fun _ _ _ h => h) (.inl ⟨by rfl, fun w hSw => by clear hSw; go_simp; (try go_bits); (try rw [if_pos (by omega)]); (try with_reducible rfl)⟩) (hbw2) ?_
          try simp only [Act.put, List.setIfInBounds_toArray, List.set_cons_zero, List.set_cons_succ]
          refine WpT.take (i := 15) rfl (by kernel_rfl) (fun _ _ _ h => h) (.inl ⟨by rfl, fun w hSw => by clear hSw; go_simp; (try go_bits); (try rw [if_pos (by omega)]); (try with_reducible rfl)⟩) (hbw2) ?_
          try simp only [Act.put, List.setIfInBounds_toArray, List.set_cons_zero, List.set_cons_succ]
          refine WpT.take (i := 16) rfl (by kernel_rfl) (fun _ _ _ h => h) (.inl ⟨by rfl, fun w hSw => by clear hSw; go_simp; (try go_bits); (try rw [if_pos (by omega)]); (try with_reducible rfl)⟩) (hbw2) ?_
          try simp only [Act.put, List.setIfInBounds_toArray, List.set_cons_zero, List.set_cons_succ]
          refine WpT.take (i := 17) rfl (by kernel_rfl) (fun _ _ _ h => h) (yields_load rfl rfl rfl (by kernel_rfl) (by assumption)) (hbw2) ?_
          try simp only [Act.put, List.setIfInBounds_toArray, List.set_cons_zero, List.set_cons_succ]
          refine WpT.take (i := 18) rfl (by kernel_rfl) (fun _ _ _ h => h) (.inl ⟨by rfl, fun w hSw => by clear hSw; go_simp; (try go_bits); (try rw [if_pos (by omega)]); (try with_reducible rfl)⟩) (hbw2) ?_
          try simp only [Act.put, List.setIfInBounds_toArray, List.set_cons_zero, List.set_cons_succ]
          refine WpT.take (i := 19) rfl (by kernel_rfl) (fun _ _ _ h => h) (.inl ⟨by rfl, fun w hSw => by clear hSw; go_simp; (try go_bits); (try rw [if_pos (by omega)]); (try with_reducible rfl)⟩) (hbw2) ?_
          try simp only [Act.put, List.setIfInBounds_toArray, List.set_cons_zero, List.set_cons_succ]
          refine WpT.fork (i := 2) (j := 20) rfl rfl (by kernel_rfl) (fun K hK => ?_) (fun K hK => ?_)
          · rw [if_pos (by rfl)]; refine wp_litB (cs := #[_]) rfl rfl (build1_R _ (by obtain ⟨A', c', e', _⟩ := hm.form; rw [e']; rfl) _) ?_; intro wA gA hBR hbA; replace hmore := hmore.below hbA; replace hwide := hwide.below hbA; replace hm := hm.below hbA; (try replace hBP := hBP.below hbA); replace hbw2 := hbw2.trans (hbA.mono hbw2.size); clear hbA
            refine hK _ _ (hbw2) ?_; clear hK K; try simp only [Act.put, List.setIfInBounds_toArray, List.set_cons_zero, List.set_cons_succ]
            refine WpT.fork (i := 3) (j := 20) rfl rfl (by kernel_rfl) (fun K hK => ?_) (fun K hK => ?_)
            · rw [if_pos (by rfl)]; refine wp_more rfl rfl hmore hm rfl hBR (by have := HK1.out; omega) hbw2.size ?_; intro vC wC hmoreC hbC hkC hkbC; replace hwide : OwnP wC w.heap.size _ _ := hkC _ _ _ _ _ (by decide) hwide; replace hm : Own wC w.heap.size _ _ _ := hkC _ _ _ _ _ (by decide) hm; (try replace hBP := hkbC _ _ _ (by decide) hBP); replace hbw2 := hbw2.trans hbC; clear hbC hkC hkbC hmore hBR; have hmore := hmoreC; clear hmoreC
              refine hK _ _ (hbw2) ?_; clear hK K; try simp only [Act.put, List.setIfInBounds_toArray, List.set_cons_zero, List.set_cons_succ]
              refine WpT.one (i := 20) rfl (by kernel_rfl) (fun K hK => ?_)
              rw [if_pos (by rfl)]; refine wp_litB (cs := #[.int .i64 (f * lo), .int .i64 (f * hi)]) rfl rfl (build1_P _ _ _) ?_; intro wB gB hBP hbB; replace hmore := hmore.below hbB; replace hwide := hwide.below hbB; replace hm := hm.below hbB; (try replace hBR := hBR.below hbB); replace hbw2 := hbw2.trans (hbB.mono hbw2.size); clear hbB
              refine hK _ _ (hbw2) ?_; clear hK K; try simp only [Act.put, List.setIfInBounds_toArray, List.set_cons_zero, List.set_cons_succ]
              refine WpT.one (i := 21) rfl (by kernel_rfl) (fun K hK => ?_)
              rw [if_pos (by rfl)]; refine wp_wide (r := (f * lo, f * hi)) rfl rfl hwide rfl hBP (by have := HK2.out; omega) hbw2.size ?_; intro vD wD hwideD hbD hkD hkbD; replace hm : Own wD w.heap.size _ _ _ := hkD _ _ _ _ _ (by decide) hm; (try replace hBR := hkbD _ _ _ (by decide) hBR); obtain ⟨us, hu1, hu2⟩ := hmore; have hmore : OwnR wD w.heap.size _ _ := ⟨us, hkD _ _ _ _ _ (by decide) hu1, hu2.map fun _ _ hz => hkD _ _ _ _ _ (by decide) hz⟩; replace hbw2 := hbw2.trans hbD; clear hbD hkD hkbD hwide hBP hu1 hu2; have hwide := hwideD; clear hwideD
              refine hK _ _ (hbw2) ?_; clear hK K; try simp only [Act.put, List.setIfInBounds_toArray, List.set_cons_zero, List.set_cons_succ]
              refine WpT.one (i := 22) rfl (by kernel_rfl) (fun K hK => ?_)
              go_simp; (try go_bits)
              refine hK _ _ (hbw2) ?_; clear hK K; try simp only [Act.put, List.setIfInBounds_toArray, List.set_cons_zero, List.set_cons_succ]
              refine WpT.tail (i := 23) rfl (by kernel_rfl) (by kernel_rfl) (fun K hK => ?_)
              go_simp; (try go_bits)
              refine hK _ _ ?_; clear hK K; try simp only [Act.put, List.setIfInBounds_toArray, List.set_cons_zero, List.set_cons_succ]
              refine WpT.done (by kernel_rfl) ?_ _
              go_wp2_with fail; rw [← HNm.out] at hmore; rw [← HNw.out] at hwide; exact ⟨⟨k + 1, by omega, by go_num, hbw2, hmore, hwide, HNp⟩, by simp [intOf]; omega⟩
            · rw [if_pos (by rfl)]; refine wp_litB (cs := #[.int .i64 (f * lo), .int .i64 (f * hi)]) rfl rfl (build1_P _ _ _) ?_; intro wB gB hBP hbB; replace hmore := hmore.below hbB; replace hwide := hwide.below hbB; replace hm := hm.below hbB; (try replace hBR := hBR.below hbB); replace hbw2 := hbw2.trans (hbB.mono hbw2.size); clear hbB
              refine hK _ _ (hbw2) ?_; clear hK K; try simp only [Act.put, List.setIfInBounds_toArray, List.set_cons_zero, List.set_cons_succ]
              refine WpT.one (i := 3) rfl (by kernel_rfl) (fun K hK => ?_)
              rw [if_pos (by rfl)]; refine wp_more rfl rfl hmore hm rfl hBR (by have := HK1.out; omega) hbw2.size ?_; intro vC wC hmoreC hbC hkC hkbC; replace hwide : OwnP wC w.heap.size _ _ := hkC _ _ _ _ _ (by decide) hwide; replace hm : Own wC w.heap.size _ _ _ := hkC _ _ _ _ _ (by decide) hm; (try replace hBP := hkbC _ _ _ (by decide) hBP); replace hbw2 := hbw2.trans hbC; clear hbC hkC hkbC hmore hBR; have hmore := hmoreC; clear hmoreC
              refine hK _ _ (hbw2) ?_; clear hK K; try simp only [Act.put, List.setIfInBounds_toArray, List.set_cons_zero, List.set_cons_succ]
              refine WpT.one (i := 21) rfl (by kernel_rfl) (fun K hK => ?_)
              rw [if_pos (by rfl)]; refine wp_wide (r := (f * lo, f * hi)) rfl rfl hwide rfl hBP (by have := HK2.out; omega) hbw2.size ?_; intro vD wD hwideD hbD hkD hkbD; replace hm : Own wD w.heap.size _ _ _ := hkD _ _ _ _ _ (by decide) hm; (try replace hBR := hkbD _ _ _ (by decide) hBR); obtain ⟨us, hu1, hu2⟩ := hmore; have hmore : OwnR wD w.heap.size _ _ := ⟨us, hkD _ _ _ _ _ (by decide) hu1, hu2.map fun _ _ hz => hkD _ _ _ _ _ (by decide) hz⟩; replace hbw2 := hbw2.trans hbD; clear hbD hkD hkbD hwide hBP hu1 hu2; have hwide := hwideD; clear hwideD
              refine hK _ _ (hbw2) ?_; clear hK K; try simp only [Act.put, List.setIfInBounds_toArray, List.set_cons_zero, List.set_cons_succ]
              refine WpT.one (i := 22) rfl (by kernel_rfl) (fun K hK => ?_)
              go_simp; (try go_bits)
              refine hK _ _ (hbw2) ?_; clear hK K; try simp only [Act.put, List.setIfInBounds_toArray, List.set_cons_zero, List.set_cons_succ]
              refine WpT.tail (i := 23) rfl (by kernel_rfl) (by kernel_rfl) (fun K hK => ?_)
              go_simp; (try go_bits)
              refine hK _ _ ?_; clear hK K; try simp only [Act.put, List.setIfInBounds_toArray, List.set_cons_zero, List.set_cons_succ]
              refine WpT.done (by kernel_rfl) ?_ _
              go_wp2_with fail; rw [← HNm.out] at hmore; rw [← HNw.out] at hwide; exact ⟨⟨k + 1, by omega, by go_num, hbw2, hmore, hwide, HNp⟩, by simp [intOf]; omega⟩
          · rw [if_pos (by rfl)]; refine wp_litB (cs := #[.int .i64 (f * lo), .int .i64 (f * hi)]) rfl rfl (build1_P _ _ _) ?_; intro wB gB hBP hbB; replace hmore := hmore.below hbB; replace hwide := hwide.below hbB; replace hm := hm.below hbB; (try replace hBR := hBR.below hbB); replace hbw2 := hbw2.trans (hbB.mono hbw2.size); clear hbB
            refine hK _ _ (hbw2) ?_; clear hK K; try simp only [Act.put, List.setIfInBounds_toArray, List.set_cons_zero, List.set_cons_succ]
            refine WpT.one (i := 2) rfl (by kernel_rfl) (fun K hK => ?_)
            rw [if_pos (by rfl)]; refine wp_litB (cs := #[_]) rfl rfl (build1_R _ (by obtain ⟨A', c', e', _⟩ := hm.form; rw [e']; rfl) _) ?_; intro wA gA hBR hbA; replace hmore := hmore.below hbA; replace hwide := hwide.below hbA; replace hm := hm.below hbA; (try replace hBP := hBP.below hbA); replace hbw2 := hbw2.trans (hbA.mono hbw2.size); clear hbA
            refine hK _ _ (hbw2) ?_; clear hK K; try simp only [Act.put, List.setIfInBounds_toArray, List.set_cons_zero, List.set_cons_succ]
            refine WpT.one (i := 3) rfl (by kernel_rfl) (fun K hK => ?_)
            rw [if_pos (by rfl)]; refine wp_more rfl rfl hmore hm rfl hBR (by have := HK1.out; omega) hbw2.size ?_; intro vC wC hmoreC hbC hkC hkbC; replace hwide : OwnP wC w.heap.size _ _ := hkC _ _ _ _ _ (by decide) hwide; replace hm : Own wC w.heap.size _ _ _ := hkC _ _ _ _ _ (by decide) hm; (try replace hBP := hkbC _ _ _ (by decide) hBP); replace hbw2 := hbw2.trans hbC; clear hbC hkC hkbC hmore hBR; have hmore := hmoreC; clear hmoreC
            refine hK _ _ (hbw2) ?_; clear hK K; try simp only [Act.put, List.setIfInBounds_toArray, List.set_cons_zero, List.set_cons_succ]
            refine WpT.one (i := 21) rfl (by kernel_rfl) (fun K hK => ?_)
            rw [if_pos (by rfl)]; refine wp_wide (r := (f * lo, f * hi)) rfl rfl hwide rfl hBP (by have := HK2.out; omega) hbw2.size ?_; intro vD wD hwideD hbD hkD hkbD; replace hm : Own wD w.heap.size _ _ _ := hkD _ _ _ _ _ (by decide) hm; (try replace hBR := hkbD _ _ _ (by decide) hBR); obtain ⟨us, hu1, hu2⟩ := hmore; have hmore : OwnR wD w.heap.size _ _ := ⟨us, hkD _ _ _ _ _ (by decide) hu1, hu2.map fun _ _ hz => hkD _ _ _ _ _ (by decide) hz⟩; replace hbw2 := hbw2.trans hbD; clear hbD hkD hkbD hwide hBP hu1 hu2; have hwide := hwideD; clear hwideD
            refine hK _ _ (hbw2) ?_; clear hK K; try simp only [Act.put, List.setIfInBounds_toArray, List.set_cons_zero, List.set_cons_succ]
            refine WpT.one (i := 22) rfl (by kernel_rfl) (fun K hK => ?_)
            go_simp; (try go_bits)
            refine hK _ _ (hbw2) ?_; clear hK K; try simp only [Act.put, List.setIfInBounds_toArray, List.set_cons_zero, List.set_cons_succ]
            refine WpT.tail (i := 23) rfl (by kernel_rfl) (by kernel_rfl) (fun K hK => ?_)
            go_simp; (try go_bits)
            refine hK _ _ ?_; clear hK K; try simp only [Act.put, List.setIfInBounds_toArray, List.set_cons_zero, List.set_cons_succ]
            refine WpT.done (by kernel_rfl) ?_ _
            go_wp2_with fail; rw [← HNm.out] at hmore; rw [← HNw.out] at hwide; exact ⟨⟨k + 1, by omega, by go_num, hbw2, hmore, hwide, HNp⟩, by simp [intOf]; omega⟩
    · obtain rfl : k = nr := by omega
      have HT1 := Lib.hid (show ls.take k = ls by rw [List.take_of_length_le (by have := HLa.out; omega)])
      have HT2 := Lib.hid (show rs.take k = rs by rw [List.take_of_length_le (by have := HLr.out; omega)])
      rw [HT1.out] at hmore
      rw [HT2.out] at hwide
      have hp := hpre.out
      rw [HT2.out] at hp
      have HPw : Hid (PairsOk (rs.map (scaleR f))) := Lib.hid (by
        intro z hz
        simp only [List.mem_map] at hz
        obtain ⟨r, hr', rfl⟩ := hz
        have h1 := hp r hr'
        have h2 := HRY.out.2.1 r hr'
        have s1 := scale_small HF.out (x := r.1) (by omega) (by omega)
        have s2 := scale_small HF.out (x := r.2) (by omega) (by omega)
        unfold scaleR
        simp only
        omega)
      have HBt := Lib.hid (bound_times (m := M) (f := f) (by omega) (q := q) ls rs HLY.out.some)
      have HB1 := Lib.hid (bound_take1 M q ls rs)
      have HLm := Lib.hid (linesOk_times HF.out HLY.out)
      have HSm := Lib.hid (some0_times (f := f) (by omega) HLY.out.some)
      have HT1y := Lib.hid HLY.out.take1
      have HP1 : Hid (PairsOk (rs.take 1)) := Lib.hid (fun r hr' => HRY.out.2.2 r (List.mem_of_mem_take hr'))
      clear hpre hp HT1 HT2
      obtain ⟨Am, cm, rfl, hcm, hmm, hrm⟩ := hmore.form
      obtain ⟨Aw, cw, rfl, hcw, hmw, hrw⟩ := hwide.form
      rw [List.length_map, HLa.out] at hrm hcm ⊢
      rw [List.length_map, HLr.out] at hrw hcw ⊢
      replace ha := ha.below hbw
      replace hr := hr.below hbw
      replace hb := hb.below hbw
      clear hmore hwide
      go_wp2_with fail
      refine (boundM_any M HM.out A k c ls R cr rs B m d q _ ha hr hb (by omega) (by omega) HLY.out.ok HLY.out.some HRY.out.2.2 HQ.out).mono ?_
      rintro e w3 ⟨rfl, hb3⟩
      replace ha := ha.below hb3
      replace hr := hr.below hb3
      replace hb := hb.below hb3
      replace hrm := hrm.below hb3
      replace hrw := hrw.below hb3
      replace hbw := bstep hbw hb3
      clear hb3
      have hc1 := HC1.out
      have hc2 := HC2.out
      have hi1 : ¬ (c : Int) < 1 := by omega
      have hi2 : ¬ (cr : Int) < 1 := by omega
      have hle := HB1.out
      have HBt2 := HBt
      generalize hb0 : bound M ls rs q = b0 at *
      have HB0 := Lib.hid hb0
      clear hb0
      go_wp2_with fail
      have hS0 : Below w3.heap.size w3 w3.drew := (Below.refl _ w3).drew
      refine wp_region_T 9 (by kernel_rfl) ?_
      -- region 20: 9 operations, tail from 9
      refine WpT.take (i := 0) rfl (by kernel_rfl) (fun _ _ _ h => h) (.inl ⟨by rfl, fun w hSw => by clear hSw; go_simp; (try go_bits); (try rw [if_pos (by omega)]); (try with_reducible rfl)⟩) ((Below.refl _ _).drew) ?_
      try simp only [Act.put, List.setIfInBounds_toArray, List.set_cons_zero, List.set_cons_succ]
      refine WpT.take (i := 1) rfl (by kernel_rfl) (fun _ _ _ h => h) (.inl ⟨by rfl, fun w hSw => by clear hSw; go_simp; (try go_bits); (try rw [if_pos (by omega)]); (try with_reducible rfl)⟩) ((Below.refl _ _).drew) ?_
      try simp only [Act.put, List.setIfInBounds_toArray, List.set_cons_zero, List.set_cons_succ]
      refine WpT.take (i := 2) rfl (by kernel_rfl) (fun _ _ _ h => h) (.inl ⟨by rfl, fun w hSw => by clear hSw; go_simp; (try go_bits); (try rw [if_pos (by omega)]); (try with_reducible rfl)⟩) ((Below.refl _ _).drew) ?_
      try simp only [Act.put, List.setIfInBounds_toArray, List.set_cons_zero, List.set_cons_succ]
      refine WpT.take (i := 3) rfl (by kernel_rfl) (fun _ _ _ h => h) (.inl ⟨by rfl, fun w hSw => by clear hSw; go_simp; (try go_bits); (try rw [if_pos (by omega)]); (try with_reducible rfl)⟩) ((Below.refl _ _).drew) ?_
      try simp only [Act.put, List.setIfInBounds_toArray, List.set_cons_zero, List.set_cons_succ]
      refine WpT.take (i := 4) rfl (by kernel_rfl) (fun _ _ _ h => h) (.inl ⟨by rfl, fun w hSw => by clear hSw; go_simp; (try go_bits); (try rw [if_pos (by omega)]); (try with_reducible rfl)⟩) ((Below.refl _ _).drew) ?_
      try simp only [Act.put, List.setIfInBounds_toArray, List.set_cons_zero, List.set_cons_succ]
      refine WpT.take (i := 5) rfl (by kernel_rfl) (fun _ _ _ h => h) (.inl ⟨by rfl, fun w hSw => by clear hSw; go_simp; (try go_bits); (try rw [if_pos (by omega)]); (try with_reducible rfl)⟩) ((Below.refl _ _).drew) ?_
      try simp only [Act.put, List.setIfInBounds_toArray, List.set_cons_zero, List.set_cons_succ]
      refine WpT.take (i := 7) rfl (by kernel_rfl) (fun _ _ _ h => h) (.inl ⟨by rfl, fun w hSw => by clear hSw; go_simp; (try go_bits); (try rw [if_pos (by omega)]); (try with_reducible rfl)⟩) ((Below.refl _ _).drew) ?_
      try simp only [Act.put, List.setIfInBounds_toArray, List.set_cons_zero, List.set_cons_succ]
      refine WpT.one (i := 6) rfl (by kernel_rfl) (fun K hK => ?_)
      go_simp; refine (boundM_any M HM.out A 1 c (ls.take 1) R cr (rs.take 1) B m d q _ ((ha.take (by omega)).below hS0) ((hr.take (by omega)).below hS0) (hb.below hS0) (by omega) (by omega) HT1y.out.1 HT1y.out.2 HP1.out HQ.out).mono ?_; rintro e w4 ⟨rfl, hb4⟩; have hS4 := bstep hS0 hb4
      refine hK _ _ (hS4) ?_; clear hK K; try simp only [Act.put, List.setIfInBounds_toArray, List.set_cons_zero, List.set_cons_succ]
      refine WpT.take (i := 8) rfl (by kernel_rfl) (fun _ _ _ h => h) (.inl ⟨by rfl, fun w hSw => by clear hSw; go_simp; (try go_bits); (try rw [if_pos (by omega)]); (try with_reducible rfl)⟩) (hS4) ?_
      try simp only [Act.put, List.setIfInBounds_toArray, List.set_cons_zero, List.set_cons_succ]
      refine WpT.done (by kernel_rfl) ?_ _
      replace ha := ha.below hS4
      replace hr := hr.below hS4
      replace hb := hb.below hS4
      replace hrm := hrm.below hS4
      replace hrw := hrw.below hS4
      replace hbw := bstep hbw hS4
      clear hS4 hS0 hb4
      generalize bound M (ls.take 1) (rs.take 1) q = b1 at *
      have hnlt : ¬ b0 < b1 := by omega
      have hnd : decide (b0 < b1) = false := decide_eq_false hnlt
      go_wp2_with fail
      refine (sanity_any _ (HG.out.below hbw)).mono ?_
      rintro e w5 ⟨rfl, hb5⟩
      replace hb := hb.below hb5
      replace hrm := hrm.below hb5
      replace hrw := hrw.below hb5
      replace hbw := bstep hbw hb5
      clear hb5
      go_wp2_with fail
      refine (linesValid_any Am k cm _ m _ hrm (by omega)).mono ?_
      rintro e w6 ⟨rfl, hb6⟩
      replace hb := hb.below hb6
      replace hrm := hrm.below hb6
      replace hrw := hrw.below hb6
      replace hbw := bstep hbw hb6
      clear hb6
      cases hV : linesB (ls.map (times f)) m
      · go_wp2_with fail
        go_ret
        exact ⟨rfl, hbw⟩
      · go_wp2_with fail
        refine (boundM_any M HM.out Am k cm _ Aw cw _ B m d q _ hrm hrw hb (by omega) (by omega) HLm.out HSm.out HPw.out HQ.out).mono ?_
        rintro e w7 ⟨rfl, hb7⟩
        replace hbw := bstep hbw hb7
        rw [show bound M (ls.map (times f)) (rs.map (scaleR f)) q = b0 from HBt2.out]
        have hbb : (b0 == b0) = true := by simp
        go_wp2_with fail
        go_ret
        exact ⟨rfl, hbw⟩
end Go.Proofs.YtcehaojohfbfkaaDoor
