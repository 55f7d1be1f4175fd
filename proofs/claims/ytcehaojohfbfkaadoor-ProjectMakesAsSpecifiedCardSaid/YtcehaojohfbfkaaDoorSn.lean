/-
  The examples of the chapter are met. Condition: the program's table of constants reads as the program lays it.
-/
import Derived.Test.YtcehaojohfbfkaaDoorLnw
import Derived.Test.YtcehaojohfbfkaaDoorWd
import Derived.Test.YtcehaojohfbfkaaDoorRof
namespace Go.Proofs.YtcehaojohfbfkaaDoor
set_option linter.unusedSimpArgs false
set_option linter.unusedVariables false
open Go.RowKit Proj
theorem lit2R (W : World) (a b c d : Int) :
    RdR (((W.alloc (.cells #[.int .i64 a, .int .i64 b] 3)).alloc (.cells #[.int .i64 c, .int .i64 d] 3)).alloc (.cells #[.slice (some ⟨W.heap.size, 0, none⟩) 2 2, .slice (some ⟨W.heap.size + 1, 0, none⟩) 2 2] 24)) (some ⟨W.heap.size + 2, 0, none⟩) 2 [[a, b], [c, d]] := by
  have r1 := litRow W #[.int .i64 a, .int .i64 b] 3
  have r2 := litRow (W.alloc (.cells #[.int .i64 a, .int .i64 b] 3)) #[.int .i64 c, .int .i64 d] 3
  have r3 := litRow ((W.alloc (.cells #[.int .i64 a, .int .i64 b] 3)).alloc (.cells #[.int .i64 c, .int .i64 d] 3)) #[.slice (some ⟨W.heap.size, 0, none⟩) 2 2, .slice (some ⟨W.heap.size + 1, 0, none⟩) 2 2] 24
  have b1 := (Below.refl (W.alloc (.cells #[.int .i64 a, .int .i64 b] 3)).heap.size (W.alloc (.cells #[.int .i64 a, .int .i64 b] 3))).alloc (Nat.le_refl _) (.cells #[.int .i64 c, .int .i64 d] 3)
  have b2 := (Below.refl ((W.alloc (.cells #[.int .i64 a, .int .i64 b] 3)).alloc (.cells #[.int .i64 c, .int .i64 d] 3)).heap.size ((W.alloc (.cells #[.int .i64 a, .int .i64 b] 3)).alloc (.cells #[.int .i64 c, .int .i64 d] 3))).alloc (Nat.le_refl _) (.cells #[.slice (some ⟨W.heap.size, 0, none⟩) 2 2, .slice (some ⟨W.heap.size + 1, 0, none⟩) 2 2] 24)
  replace r1 := (r1.below b1).below b2
  replace r2 := r2.below b2
  simp only [World.size_alloc, Nat.add_assoc, Nat.reduceAdd] at r1 r2 r3
  refine ⟨rfl, fun k hk => ?_⟩
  match k, hk with
  | 0, _ => exact ⟨_, _, 2, rfl, by obtain ⟨ad, e, h⟩ := r3.get (k := 0) (by simp); injection e with e; subst e; exact h, by simp, by simp [maxLen], r1⟩
  | 1, _ => exact ⟨_, _, 2, rfl, by obtain ⟨ad, e, h⟩ := r3.get (k := 1) (by simp); injection e with e; subst e; exact h, by simp, by simp [maxLen], r2⟩
theorem lit2P (W : World) (a b c d : Int) (t : TypeId) : RdP (W.alloc (.cells #[.int .i64 a, .int .i64 b, .int .i64 c, .int .i64 d] t)) (some ⟨W.heap.size, 0, none⟩) 2 [(a, b), (c, d)] := by
  have r := litRow W #[.int .i64 a, .int .i64 b, .int .i64 c, .int .i64 d] t
  have g : ∀ k (h : k < 4), (W.alloc (.cells #[.int .i64 a, .int .i64 b, .int .i64 c, .int .i64 d] t)).cell? ((⟨W.heap.size, 0, none⟩ : Addr).add k) = some (([.int .i64 a, .int .i64 b, .int .i64 c, .int .i64 d] : List Value)[k]'(by simpa using h)) := by
    intro k h
    obtain ⟨ad, e, hc⟩ := r.get (k := k) (by simpa using h)
    injection e with e
    subst e
    simpa using hc
  refine ⟨rfl, fun k hk => ⟨_, rfl, ?_⟩⟩
  match k, hk with
  | 0, _ => exact ⟨g 0 (by omega), g 1 (by omega)⟩
  | 1, _ => exact ⟨g 2 (by omega), g 3 (by omega)⟩
structure Example (ls : List (List Int)) (rs : List (Int × Int)) : Prop where
  ok : LinesOk ls 2
  some : ∀ l ∈ ls, some0 l
  len : ls.length = 2
  lenR : rs.length = 2
  pairs : PairsOk rs
  of : rangesOf ls [0, 0] [[3, 1]] = rs
  same : decide (rs = [(0, 4), (0, 5)]) = true
  app : apply ls [3, 1] = [4, 5]
  b1 : bound 1 ls rs [5, 5] = 6
  b2 : bound 2 ls rs [5, 5] = 18
  b3 : bound 3 ls rs [5, 5] = 3
  has1 : has rs [4, 5] = true
  has2 : has rs [5, 5] = false
  wide : wb rs 2 = 1
  valid2 : linesB ls 2 = true
  valid3 : linesB ls 3 = false
theorem the_example : Example [[1, 1], [2, -1]] [(0, 4), (0, 5)] where
  ok := ⟨by decide, by decide⟩
  some := by
    intro l hl
    simp only [List.mem_cons, List.not_mem_nil, or_false] at hl
    rcases hl with rfl | rfl
    · exact ⟨1, by simp, by decide⟩
    · exact ⟨2, by simp, by decide⟩
  len := rfl
  lenR := rfl
  pairs := by unfold PairsOk; decide
  of := by decide
  same := by decide
  app := by decide
  b1 := by decide
  b2 := by decide
  b3 := by decide
  has1 := by decide
  has2 := by decide
  wide := by decide
  valid2 := by decide
  valid3 := by decide
set_option maxRecDepth 20000 in
set_option maxHeartbeats 8000000 in
theorem sanity_any (w : World) (hg : GCon w) : Calls Tryd.prog 10 #[] w fun e w' => e = .returned (.bool true) ∧ Below w.heap.size w w' := by
  have HG := Lib.hid hg
  clear hg
  have L1 := lit2R w 1 1 2 (-1)
  have B1 := (((Below.refl w.heap.size w).alloc (Nat.le_refl _) (.cells #[.int .i64 1, .int .i64 1] 3)).alloc (by simp) (.cells #[.int .i64 2, .int .i64 (-1)] 3)).alloc (by simp; omega) (.cells #[.slice (some ⟨w.heap.size, 0, none⟩) 2 2, .slice (some ⟨w.heap.size + 1, 0, none⟩) 2 2] 24)
  obtain ⟨W, hW⟩ : ∃ W, W = ((w.alloc (.cells #[.int .i64 1, .int .i64 1] 3)).alloc (.cells #[.int .i64 2, .int .i64 (-1)] 3)).alloc (.cells #[.slice (some ⟨w.heap.size, 0, none⟩) 2 2, .slice (some ⟨w.heap.size + 1, 0, none⟩) 2 2] 24) := ⟨_, rfl⟩
  have hWs : W.heap.size = w.heap.size + 3 := by rw [hW]; simp
  rw [← hW] at L1 B1
  have L2 := lit2R W 0 0 3 1
  have B2 := (((Below.refl W.heap.size W).alloc (Nat.le_refl _) (.cells #[.int .i64 0, .int .i64 0] 3)).alloc (by simp) (.cells #[.int .i64 3, .int .i64 1] 3)).alloc (by simp; omega) (.cells #[.slice (some ⟨W.heap.size, 0, none⟩) 2 2, .slice (some ⟨W.heap.size + 1, 0, none⟩) 2 2] 24)
  replace L1 := L1.below B2
  replace B2 := bstep B1 B2
  clear B1
  rw [hWs] at L2 L1 B2
  subst hW
  clear hWs
  obtain ⟨LL, RS, hLL, EX0⟩ : ∃ LL RS, LL = [[1, 1], [2, -1]] ∧ Example LL RS := ⟨_, _, rfl, the_example⟩
  rw [← hLL] at L1
  clear hLL
  have EX := Lib.hid EX0
  clear EX0
  go_enter Tryd.func10, Tryd.ntmps10
  go_wp2_with fail
  refine (of_ranges (some ⟨w.heap.size + 2, 0, none⟩) 2 2 LL (some ⟨w.heap.size + 5, 0, none⟩) 2 2 [0, 0] [[3, 1]] 2 _ L1 L2 (by omega) (by omega) (by omega) (by omega) (by simp [maxLen]) (by omega) EX.out.ok ⟨by decide, by decide⟩).mono ?_
  rintro e w1 ⟨v, rfl, hown, hb1⟩
  replace L1 := L1.below hb1
  replace hb1 := bstep B2 hb1
  clear L2 B2
  rw [EX.out.of] at hown
  obtain ⟨A1, c1, rfl, hc1, hm1, hr1⟩ := hown.form
  rw [EX.out.lenR] at hr1 hc1 ⊢
  clear hown
  go_wp2_with fail
  have q0 := litRow w1 #[.int .i64 5, .int .i64 5] 3
  have b0 := (Below.refl w1.heap.size w1).alloc (Nat.le_refl _) (.cells #[.int .i64 5, .int .i64 5] 3)
  have p0 := lit2P (w1.alloc (.cells #[.int .i64 5, .int .i64 5] 3)) 0 4 0 5 45
  have b1 := (Below.refl (w1.alloc (.cells #[.int .i64 5, .int .i64 5] 3)).heap.size (w1.alloc (.cells #[.int .i64 5, .int .i64 5] 3))).alloc (Nat.le_refl _) (.cells #[.int .i64 0, .int .i64 4, .int .i64 0, .int .i64 5] 45)
  replace q0 : Rd _ (some ⟨w1.heap.size, 0, none⟩) 2 (iv [5, 5]) := q0.below b1
  replace b1 := bstep b0 b1
  clear b0
  rw [show (w1.alloc (.cells #[.int .i64 5, .int .i64 5] 3)).heap.size = w1.heap.size + 1 by simp] at p0
  refine (samePairs_any A1 2 c1 RS (some ⟨w1.heap.size + 1, 0, none⟩) 2 2 [(0, 4), (0, 5)] _ (hr1.below b1) p0 (by omega) (by omega)).mono ?_
  rintro e w2 ⟨rfl, hb2⟩
  rw [EX.out.same]
  replace q0 := q0.below hb2
  replace b1 := bstep b1 hb2
  replace L1 := L1.below b1
  replace hr1 := hr1.below b1
  replace hb1 := hb1.trans (b1.mono hb1.size)
  clear p0 hb2 b1
  have HQ := Lib.hid q0
  clear HQ
  go_wp2_with fail
  have p0 := litRow w2 #[.int .i64 3, .int .i64 1] 3
  have b0 := (Below.refl w2.heap.size w2).alloc (Nat.le_refl _) (.cells #[.int .i64 3, .int .i64 1] 3)
  refine (apply_any (some ⟨w.heap.size + 2, 0, none⟩) 2 2 LL (some ⟨w2.heap.size, 0, none⟩) 2 2 [3, 1] _ (L1.below b0) p0 (by omega) (by omega) EX.out.ok (by decide)).mono ?_
  rintro e w3 ⟨v3, rfl, hown3, hb3⟩
  rw [EX.out.app] at hown3
  have b1 := bstep b0 hb3
  replace q0 := q0.below b1
  replace L1 := L1.below b1
  replace hr1 := hr1.below b1
  replace hb1 := hb1.trans (b1.mono hb1.size)
  clear b1
  clear b0 hb3 p0
  obtain ⟨A3, c3, rfl, hc3, hm3, hr3⟩ := hown3.form
  simp only [length_iv, List.length_cons, List.length_nil, Nat.zero_add, Nat.reduceAdd] at hr3 hc3 ⊢
  clear hown3
  go_wp2_with fail
  have p0 := litRow w3 #[.int .i64 4, .int .i64 5] 3
  have b0 := (Below.refl w3.heap.size w3).alloc (Nat.le_refl _) (.cells #[.int .i64 4, .int .i64 5] 3)
  refine (sameInts_any A3 2 c3 [4, 5] (some ⟨w3.heap.size, 0, none⟩) 2 2 [4, 5] _ (hr3.below b0) p0 (by omega) (by omega)).mono ?_
  rintro e w4 ⟨rfl, hb4⟩
  rw [show decide (([4, 5] : List Int) = [4, 5]) = true by decide]
  have b1 := bstep b0 hb4
  replace q0 := q0.below b1
  replace L1 := L1.below b1
  replace hr1 := hr1.below b1
  replace hb1 := hb1.trans (b1.mono hb1.size)
  clear b1
  clear b0 hb4 p0 hr3
  go_wp2_with fail
  refine (bound1_any (some ⟨w.heap.size + 2, 0, none⟩) 2 2 LL A1 c1 RS (some ⟨w1.heap.size, 0, none⟩) 2 2 [5, 5] _ L1 hr1 q0 (by omega) (by omega) EX.out.ok EX.out.some EX.out.pairs (by decide)).mono ?_
  rintro e w5 ⟨rfl, b1⟩
  rw [EX.out.b1]
  replace q0 := q0.below b1
  replace L1 := L1.below b1
  replace hr1 := hr1.below b1
  replace hb1 := hb1.trans (b1.mono hb1.size)
  clear b1
  go_wp2_with fail
  refine (bound2_any (some ⟨w.heap.size + 2, 0, none⟩) 2 2 LL A1 c1 RS (some ⟨w1.heap.size, 0, none⟩) 2 2 [5, 5] _ L1 hr1 q0 (by omega) (by omega) EX.out.ok EX.out.some EX.out.pairs (by decide)).mono ?_
  rintro e w6 ⟨rfl, b1⟩
  rw [EX.out.b2]
  replace q0 := q0.below b1
  replace L1 := L1.below b1
  replace hr1 := hr1.below b1
  replace hb1 := hb1.trans (b1.mono hb1.size)
  clear b1
  go_wp2_with fail
  refine (bound3_any (some ⟨w.heap.size + 2, 0, none⟩) 2 2 LL A1 c1 RS (some ⟨w1.heap.size, 0, none⟩) 2 2 [5, 5] _ L1 hr1 q0 (by omega) (by omega) EX.out.ok EX.out.some EX.out.pairs (by decide)).mono ?_
  rintro e w7 ⟨rfl, b1⟩
  rw [EX.out.b3]
  replace q0 := q0.below b1
  replace L1 := L1.below b1
  replace hr1 := hr1.below b1
  replace hb1 := hb1.trans (b1.mono hb1.size)
  clear b1
  go_wp2_with fail
  have p0 := litRow w7 #[.int .i64 4, .int .i64 5] 3
  have b0 := (Below.refl w7.heap.size w7).alloc (Nat.le_refl _) (.cells #[.int .i64 4, .int .i64 5] 3)
  refine (has_any A1 2 c1 RS (some ⟨w7.heap.size, 0, none⟩) 2 [4, 5] _ (hr1.below b0) p0 (by omega)).mono ?_
  rintro e w8 ⟨rfl, hbx⟩
  rw [EX.out.has1]
  have b1 := bstep b0 hbx
  replace q0 := q0.below b1
  replace L1 := L1.below b1
  replace hr1 := hr1.below b1
  replace hb1 := hb1.trans (b1.mono hb1.size)
  clear b1
  clear b0 hbx p0
  go_wp2_with fail
  have p0 := litRow w8 #[.int .i64 5, .int .i64 5] 3
  have b0 := (Below.refl w8.heap.size w8).alloc (Nat.le_refl _) (.cells #[.int .i64 5, .int .i64 5] 3)
  refine (has_any A1 2 c1 RS (some ⟨w8.heap.size, 0, none⟩) 2 [5, 5] _ (hr1.below b0) p0 (by omega)).mono ?_
  rintro e w9 ⟨rfl, hbx⟩
  rw [EX.out.has2]
  have b1 := bstep b0 hbx
  replace q0 := q0.below b1
  replace L1 := L1.below b1
  replace hr1 := hr1.below b1
  replace hb1 := hb1.trans (b1.mono hb1.size)
  clear b1
  clear b0 hbx p0
  go_wp2_with fail
  refine (widest_any A1 2 c1 RS _ hr1 (by omega) EX.out.pairs).mono ?_
  rintro e w10 ⟨rfl, b1⟩
  rw [EX.out.wide]
  replace q0 := q0.below b1
  replace L1 := L1.below b1
  replace hr1 := hr1.below b1
  replace hb1 := hb1.trans (b1.mono hb1.size)
  clear b1
  go_wp2_with fail
  refine (linesValid_any (some ⟨w.heap.size + 2, 0, none⟩) 2 2 LL 2 _ L1 (by omega)).mono ?_
  rintro e w11 ⟨rfl, b1⟩
  rw [EX.out.valid2]
  replace q0 := q0.below b1
  replace L1 := L1.below b1
  replace hr1 := hr1.below b1
  replace hb1 := hb1.trans (b1.mono hb1.size)
  clear b1
  go_wp2_with fail
  refine (linesValid_any (some ⟨w.heap.size + 2, 0, none⟩) 2 2 LL 3 _ L1 (by omega)).mono ?_
  rintro e w12 ⟨rfl, b1⟩
  rw [EX.out.valid3]
  replace q0 := q0.below b1
  replace L1 := L1.below b1
  replace hr1 := hr1.below b1
  replace hb1 := hb1.trans (b1.mono hb1.size)
  clear b1
  go_wp2_with fail
  refine (lines_any 1 2 3 _ (by omega) (by omega) (by omega) (by omega) (HG.out.below hb1)).mono ?_
  rintro e w13 ⟨v13, rfl, hown13, b1⟩
  obtain ⟨A13, c13, rfl, hc13, hm13, _⟩ := hown13.form
  rw [length_linesL] at hc13 ⊢
  clear hown13
  replace hb1 := hb1.trans (b1.mono hb1.size)
  go_wp2_with fail
  go_ret
  exact ⟨rfl, hb1⟩
end Go.Proofs.YtcehaojohfbfkaaDoor
