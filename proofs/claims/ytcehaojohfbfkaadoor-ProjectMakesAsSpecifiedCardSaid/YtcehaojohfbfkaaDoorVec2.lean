/-
  What the reference says of vectors and metrics. Conditions: none.
-/
import Derived.Test.YtcehaojohfbfkaaDoorVec
namespace Go.Proofs.YtcehaojohfbfkaaDoor
set_option linter.unusedSimpArgs false
set_option linter.unusedVariables false
open Go.RowKit Proj
def small (x : Int) : Prop := -1000 ≤ x ∧ x ≤ 1000
instance (x : Int) : Decidable (small x) := inferInstanceAs (Decidable (_ ∧ _))
def vecB (l : List Int) : Bool := decide (1 ≤ l.length ∧ l.length ≤ 32 ∧ ∀ x ∈ l, small x)
theorem vecB_yes {l : List Int} (h : vecB l = true) : 1 ≤ l.length ∧ l.length ≤ 32 ∧ ∀ x ∈ l, small x := of_decide_eq_true h
set_option maxHeartbeats 1000000 in
theorem refValid_any (A : Option Addr) (n c : Nat) (l : List Int) (w : World) (hn : n ≤ 9223372036854775807) (hr : Rd w A n (iv l)) :
    Calls Tryd.prog 29 #[.slice A n c] w fun e w' => e = .returned (.bool (vecB l)) ∧ w = w' := by
  have HL := Lib.hid (show l.length = n by have := hr.len; simpa using this)
  have HV := Lib.hid (show vecB l = decide (1 ≤ l.length ∧ l.length ≤ 32 ∧ ∀ x ∈ l, small x) from rfl)
  generalize vecB l = V at *
  go_enter Tryd.func29, Tryd.ntmps29
  go_wp2_with fail
  go_loop [3] (fun j => ∃ k : Nat, k ≤ n ∧ j = .int .i64 k ∧ Hid (∀ x ∈ l.take k, small x)) (fun j => n - (intOf j).toNat)
  case atStart => exact ⟨0, Nat.zero_le _, rfl, (by intro x hx; simp at hx : ∀ x ∈ l.take 0, small x)⟩
  case round =>
    obtain ⟨k, hk, rfl, hpre⟩ := hrel
    by_cases hlt : k < n
    · obtain ⟨ad, rfl, hc⟩ := hr.int hlt HL.out
      have HT := Lib.hid (List.take_succ_eq_append_getElem (show k < l.length by have := HL.out; omega))
      have HM := Lib.hid (List.getElem_mem (show k < l.length by have := HL.out; omega))
      generalize l[k]'(by have := HL.out; omega) = x at *
      by_cases h1 : x < -1000
      · have hf : V = false := by
          rw [HV.out, decide_eq_false_iff_not]
          intro h
          have := h.2.2 x HM.out
          unfold small at this; omega
        subst hf
        clear HV
        go_wp2
        go_ret
        exact ⟨rfl, rfl⟩
      · by_cases h2 : 1000 < x
        · have hf : V = false := by
            rw [HV.out, decide_eq_false_iff_not]
            intro h
            have := h.2.2 x HM.out
            unfold small at this; omega
          subst hf
          clear HV
          go_wp2
          go_ret
          exact ⟨rfl, rfl⟩
        · go_wp2_with fail
          refine ⟨⟨k + 1, by omega, by go_num, ?_⟩, by simp [intOf]; omega⟩
          show ∀ y ∈ l.take (k + 1), small y
          rw [HT.out]
          intro y hy
          rcases List.mem_append.1 hy with hy | hy
          · exact hpre.out y hy
          · simp at hy; rw [hy]; unfold small; omega
    · obtain rfl : k = n := by omega
      have hall := hpre.out
      rw [List.take_of_length_le (by have := HL.out; omega)] at hall
      by_cases h1 : k = 0
      · have hf : V = false := by
          rw [HV.out, decide_eq_false_iff_not]
          intro h
          have := HL.out; omega
        subst hf
        subst h1
        clear HV hall
        go_wp2
        go_ret
        exact ⟨rfl, rfl⟩
      · by_cases h2 : k ≤ 32
        · have hf : V = true := by
            rw [HV.out, decide_eq_true_eq]
            have := HL.out
            exact ⟨by omega, by omega, hall⟩
          subst hf
          clear HV hall
          have h3 : (1 : Int) ≤ (k : Int) := by omega
          have hd : decide ((k : Int) ≤ 32) = true := by simp; omega
          go_wp2
          go_ret
          exact ⟨rfl, rfl⟩
        · have hf : V = false := by
            rw [HV.out, decide_eq_false_iff_not]
            intro h
            have := HL.out; omega
          subst hf
          clear HV hall
          have h3 : (1 : Int) ≤ (k : Int) := by omega
          have hd : decide ((k : Int) ≤ 32) = false := by simp; omega
          go_wp2
          go_ret
          exact ⟨rfl, rfl⟩
theorem refMetric_any (m : Int) (w : World) :
    Calls Tryd.prog 31 #[.int .i64 m] w fun e w' => e = .returned (.bool (decide (1 ≤ m ∧ m ≤ 3))) ∧ w = w' := by
  by_cases h1 : 1 ≤ m
  · by_cases h2 : m ≤ 3
    · rw [decide_eq_true (p := 1 ≤ m ∧ m ≤ 3) ⟨h1, h2⟩]
      go_enter Tryd.func31, Tryd.ntmps31
      go_wp2
      go_ret
      exact ⟨rfl, rfl⟩
    · rw [decide_eq_false (p := 1 ≤ m ∧ m ≤ 3) (by omega)]
      go_enter Tryd.func31, Tryd.ntmps31
      go_wp2
      go_ret
      exact ⟨rfl, rfl⟩
  · rw [decide_eq_false (p := 1 ≤ m ∧ m ≤ 3) (by omega)]
    go_enter Tryd.func31, Tryd.ntmps31
    go_wp2
    go_ret
    exact ⟨rfl, rfl⟩
end Go.Proofs.YtcehaojohfbfkaaDoor
