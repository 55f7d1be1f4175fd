/-
  What the reference's norms compute. Conditions: the numbers are small.
-/
import Derived.Test.YtcehaojohfbfkaaDoorVec
namespace Go.Proofs.YtcehaojohfbfkaaDoor
set_option linter.unusedSimpArgs false
set_option linter.unusedVariables false
open Go.RowKit Proj
theorem refSize_any (x : Int) (w : World) (h1 : -4611686018427387904 ≤ x) (h2 : x ≤ 4611686018427387904) :
    Calls Tryd.prog 77 #[.int .i64 x] w fun e w' => e = .returned (.int .i64 (ab x)) ∧ w = w' := by
  by_cases h : x < 0
  · rw [show ab x = -x by unfold ab; omega]
    go_enter Tryd.func77, Tryd.ntmps77
    go_wp2
    go_ret
    exact ⟨rfl, rfl⟩
  · rw [show ab x = x by unfold ab; omega]
    go_enter Tryd.func77, Tryd.ntmps77
    go_wp2
    go_ret
    exact ⟨rfl, rfl⟩
theorem norm_small (m : Int) (l : List Int) (hn : l.length ≤ 64) (hA : ∀ x ∈ l, ab x ≤ 2000) : 0 ≤ norm m l ∧ norm m l ≤ 256000000 := by
  have h1 := n1_bound 2000 l hA
  have h2 := n2_bound 2000 l hA
  have h3 := n3_bound 2000 (by omega) l hA
  refine ⟨norm_nonneg m l, ?_⟩
  unfold norm
  split
  · omega
  · split <;> omega
set_option maxHeartbeats 2000000 in
theorem refNorm_any (m : Int) (A : Option Addr) (n c : Nat) (l : List Int) (w : World) (hr : Rd w A n (iv l)) (hn : n ≤ 64) (hA : ∀ x ∈ l, ab x ≤ 2000) :
    Calls Tryd.prog 72 #[.int .i64 m, .slice A n c] w fun e w' => e = .returned (.int .i64 (norm m l)) ∧ Below w.heap.size w w' := by
  have HL := Lib.hid (show l.length = n by have := hr.len; simpa using this)
  have HA := Lib.hid hA
  clear hA
  have hm : m = 1 ∨ m = 2 ∨ (¬ m = 1 ∧ ¬ m = 2) := by omega
  have HM := Lib.hid hm
  clear hm
  go_enter Tryd.func72, Tryd.ntmps72
  go_wp2_with fail
  go_loopw [5, 6] (fun s j wr => ∃ k : Nat, k ≤ n ∧ j = .int .i64 k ∧ s = .int .i64 (norm m (l.take k)) ∧ Below w.heap.size w wr) (fun _ j _ => n - (intOf j).toNat)
  case atStart => exact ⟨0, Nat.zero_le _, rfl, by simp [norm, n1, n2, n3], Below.refl _ _⟩
  case round =>
    obtain ⟨k, hk, rfl, rfl, hbw⟩ := hrel
    by_cases hlt : k < n
    · obtain ⟨ad, rfl, hc⟩ := (hr.below hbw).int hlt HL.out
      have HT := Lib.hid (List.take_succ_eq_append_getElem (show k < l.length by have := HL.out; omega))
      obtain ⟨h4a, h4b⟩ := norm_small m (l.take k) (by rw [List.length_take]; omega) (fun x hx => HA.out x (List.mem_of_mem_take hx))
      have h2 := HA.out (l[k]'(by have := HL.out; omega)) (List.getElem_mem _)
      generalize l[k]'(by have := HL.out; omega) = x at *
      have h3 : -2000 ≤ x ∧ x ≤ 2000 := by unfold ab at h2; omega
      have h5 := mul_small h2 h2
      have h6 : -4000000 ≤ x * x ∧ x * x ≤ 4000000 := by unfold ab at h5; omega
      have h7 := ab_nonneg x
      obtain ⟨h3a, h3b⟩ := h3
      obtain ⟨h6a, h6b⟩ := h6
      clear h5
      rcases HM.out with rfl | rfl | ⟨m1, m2⟩
      · have HS : Hid (norm 1 (l.take (k + 1)) = norm 1 (l.take k) + ab x) := by
          show _ = _
          rw [HT.out]; simp only [norm, if_true]; exact n1_snoc x _
        generalize norm 1 (l.take k) = s at *
        go_wp2_with fail
        refine (refSize_any x _ (by omega) (by omega)).mono ?_
        rintro e w' ⟨rfl, rfl⟩
        generalize ab x = y at *
        go_wp2_with fail
        refine ⟨⟨k + 1, by omega, by go_num, ?_, hbw⟩, by simp [intOf]; omega⟩
        rw [HS.out]
      · have HS : Hid (norm 2 (l.take (k + 1)) = norm 2 (l.take k) + x * x) := by
          show _ = _
          rw [HT.out]; simp only [norm, if_true, show ¬ ((2 : Int) = 1) by decide, if_false]; exact n2_snoc x _
        generalize norm 2 (l.take k) = s at *
        go_wp2_with fail
        go_quiet (fail)
        go_wp2_with fail
        refine ⟨⟨k + 1, by omega, by go_num, ?_, hbw.trans ⟨rfl, rfl, rfl, Nat.le_refl _, fun _ _ => rfl⟩⟩, by simp [intOf]; omega⟩
        rw [HS.out]
      · have HS : Hid (norm m (l.take (k + 1)) = max (norm m (l.take k)) (ab x)) := by
          show _ = _
          rw [HT.out]; simp only [norm, if_neg m1, if_neg m2]; exact n3_snoc x _
        generalize norm m (l.take k) = s at *
        go_wp2_with fail
        refine (refSize_any x _ (by omega) (by omega)).mono ?_
        rintro e w' ⟨rfl, rfl⟩
        generalize ab x = y at *
        go_wp2_with fail
        all_goals
          refine ⟨⟨k + 1, by omega, by go_num, ?_, hbw⟩, by simp [intOf]; omega⟩
          rw [HS.out]
          first | rfl | (congr 1; omega)
    · obtain rfl : k = n := by omega
      have HT := Lib.hid (show l.take k = l by rw [List.take_of_length_le (by have := HL.out; omega)])
      rw [HT.out]
      go_wp2
      go_ret
      exact ⟨rfl, hbw⟩
end Go.Proofs.YtcehaojohfbfkaaDoor
