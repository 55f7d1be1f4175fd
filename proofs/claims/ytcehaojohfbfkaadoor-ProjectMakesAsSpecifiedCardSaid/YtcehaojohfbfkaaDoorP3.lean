/-
  The law ProjectMakesAsSpecified, walked. Condition: the tables of constants read as the program lays them.
-/
import Derived.Test.YtcehaojohfbfkaaDoorRl
namespace Go.Proofs.YtcehaojohfbfkaaDoor
set_option linter.unusedSimpArgs false
set_option linter.unusedVariables false
open Go.RowKit Proj Sha
set_option maxRecDepth 20000 in
set_option maxHeartbeats 8000000 in
theorem walkProjectMakesAsSpecified (S N D : Int) (A : Option Addr) (n c : Nat) (ls : List (List Int)) (w : World)
    (f0 : (Lit.int .i64 S).wf = true) (f1 : (Lit.int .i64 N).wf = true) (f2 : (Lit.int .i64 D).wf = true) (x1 : n ≤ c) (y1 : c ≤ maxLen) (ha : RdR w A n ls) (e1 : ∀ l ∈ ls, ∀ z ∈ l, (Lit.int .i64 z).wf = true) (hg : GCon w) (hrc : RCon w) :
    Calls Tryd.prog 3 #[.int .i64 S, .int .i64 N, .int .i64 D, .slice A n c] w fun e w' => e = .returned (.bool true) ∧ Below w.heap.size w w' := by
  have hS : -9223372036854775808 ≤ S ∧ S ≤ 9223372036854775807 := by
    simp [Lit.wf, IntKind.min, IntKind.max, IntKind.bits, IntKind.signed] at f0
    omega
  have HS := Lib.hid hS
  have hn := Nat.le_trans x1 y1
  simp only [maxLen] at hn
  clear f0 f1 f2 e1 x1 y1 hS
  have HLa := Lib.hid ha.len
  have HG := Lib.hid hg
  have HR := Lib.hid hrc
  clear hg hrc
  by_cases c12 : 12 < (n : Int)
  · go_enter Tryd.func3, Tryd.ntmps3
    go_wp2_with fail
    refine (sanity_any _ HG.out).mono ?_
    rintro e w1 ⟨rfl, hb1⟩
    go_wp2_with fail
    go_ret
    exact ⟨rfl, hb1⟩
  go_enter Tryd.func3, Tryd.ntmps3
  go_wp2_with fail
  go_loop [10, 18] (fun _ j => ∃ k : Nat, k ≤ n ∧ j = .int .i64 k) (fun _ j => n - (intOf j).toNat)
  case atStart => exact ⟨0, Nat.zero_le _, rfl⟩
  case round =>
    obtain ⟨k, hk, rfl⟩ := hrel
    by_cases hlt : k < n
    · obtain ⟨ad, L, c', rfl, hc, hlc, hcm, hrl⟩ := ha.row k (by have := HLa.out; omega)
      generalize ls[k]'(by have := HLa.out; omega) = l at *
      by_cases c40 : 40 < (l.length : Int)
      · go_wp2_with fail
        refine (sanity_any _ HG.out).mono ?_
        rintro e w1 ⟨rfl, hb1⟩
        go_wp2_with fail
        go_ret
        exact ⟨rfl, hb1⟩
      · go_wp2_with fail
        exact ⟨⟨k + 1, by omega, by go_num⟩, by simp [intOf]; omega⟩
    · obtain rfl : k = n := by omega
      have H1 := Lib.hid (linesValid_any A k c ls D w ha (by omega))
      have H2 := Lib.hid (fun W (hw : Below w.heap.size w W) => refLinesValid_any A k c ls D W (ha.below hw) (by omega))
      have HXX : ∀ (X : Bool) w, (binOp .neq 4 (.bool X) (.bool X)).run Tryd.prog w = .ok (.bool false) w := fun X w => by cases X <;> kernel_rfl
      generalize linesB ls D = X at *
      have hxx := HXX X
      clear HXX
      go_wp2_with fail
      refine H1.out.mono ?_
      rintro e w1 ⟨rfl, hb1⟩
      go_wp2_with fail
      refine (H2.out _ hb1).mono ?_
      rintro e w2 ⟨rfl, rfl⟩
      clear H1 H2
      by_cases n1 : N < 1
      · go_wp2_with fail
        refine (sanity_any _ (HG.out.below hb1)).mono ?_
        rintro e w2 ⟨rfl, hb2⟩
        go_wp2_with fail
        go_ret
        exact ⟨rfl, bstep hb1 hb2⟩
      by_cases n8 : 8 < N
      · go_wp2_with fail
        refine (sanity_any _ (HG.out.below hb1)).mono ?_
        rintro e w2 ⟨rfl, hb2⟩
        go_wp2_with fail
        go_ret
        exact ⟨rfl, bstep hb1 hb2⟩
      by_cases d1 : D < 1
      · go_wp2_with fail
        refine (sanity_any _ (HG.out.below hb1)).mono ?_
        rintro e w2 ⟨rfl, hb2⟩
        go_wp2_with fail
        go_ret
        exact ⟨rfl, bstep hb1 hb2⟩
      by_cases d32 : 32 < D
      · go_wp2_with fail
        refine (sanity_any _ (HG.out.below hb1)).mono ?_
        rintro e w2 ⟨rfl, hb2⟩
        go_wp2_with fail
        go_ret
        exact ⟨rfl, bstep hb1 hb2⟩
      obtain ⟨nn, rfl⟩ : ∃ nn : Nat, N = nn := ⟨N.toNat, by omega⟩
      obtain ⟨dd, rfl⟩ : ∃ dd : Nat, D = dd := ⟨D.toNat, by omega⟩
      have HLy := Lib.hid (linesB_linesL S nn dd (by omega) (by omega) (by omega) (by omega))
      have HLl := Lib.hid (length_linesL S nn dd)
      have HLr : Hid (∀ l ∈ linesL S nn dd, l.length ≤ 1000) := Lib.hid (by
        intro l hl
        simp only [linesL, List.mem_map] at hl
        obtain ⟨i, _, rfl⟩ := hl
        rw [length_lineL S i dd (by omega)]; omega)
      have HP := Lib.hid (fun W (hg : GCon W) => lines_any S nn dd W HS.out (by omega) (by omega) (by omega) hg)
      have HQ := Lib.hid (fun W (hg : RCon W) => refLines_any S nn dd W HS.out (by omega) (by omega) (by omega) hg)
      generalize linesL S nn dd = T at *
      have hnn8 : nn ≤ 8 := by omega
      have hdd : dd ≤ 32 := by omega
      go_wp2_with fail
      refine (HP.out _ (HG.out.below hb1)).mono ?_
      rintro e w3 ⟨v3, rfl, ho3, hb3⟩
      replace hb1 := bstep hb1 hb3
      obtain ⟨A3, c3, rfl, hc3, hm3, hr3⟩ := ho3.form
      rw [HLl.out] at hr3 hc3 ⊢
      clear ho3 hb3
      go_wp2_with fail
      refine (sanity_any _ (HG.out.below hb1)).mono ?_
      rintro e w4 ⟨rfl, hb4⟩
      replace hr3 := hr3.below hb4
      replace hb1 := bstep hb1 hb4
      clear hb4
      go_wp2_with fail
      refine (HQ.out _ (HR.out.below hb1)).mono ?_
      rintro e w5 ⟨v5, rfl, ho5, hb5⟩
      replace hr3 := hr3.below hb5
      replace hb1 := bstep hb1 hb5
      obtain ⟨A5, c5, rfl, hc5, hm5, hr5⟩ := ho5.form
      rw [HLl.out] at hr5 hc5 ⊢
      clear ho5 hb5
      go_wp2_with fail
      refine (sameLines_any A3 nn c3 A5 c5 T _ hr3 hr5 (by omega) HLr.out).mono ?_
      rintro e w6 ⟨rfl, hb6⟩
      replace hr3 := hr3.below hb6
      replace hb1 := bstep hb1 hb6
      clear hb6 hr5
      go_wp2_with fail
      refine (linesValid_any A3 nn c3 T dd _ hr3 (by omega)).mono ?_
      rintro e w7 ⟨rfl, hb7⟩
      rw [HLy.out]
      replace hb1 := bstep hb1 hb7
      go_wp2_with fail
      go_ret
      exact ⟨rfl, hb1⟩
end Go.Proofs.YtcehaojohfbfkaaDoor
