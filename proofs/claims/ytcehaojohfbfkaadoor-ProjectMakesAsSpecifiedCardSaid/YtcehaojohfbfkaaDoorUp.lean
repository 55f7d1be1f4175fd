/-
  What a quotient, rounded up, is, in the program and in the reference. Conditions: the numbers are small and right.
-/
import Derived.Test.YtcehaojohfbfkaaDoorVec
namespace Go.Proofs.YtcehaojohfbfkaaDoor
set_option linter.unusedSimpArgs false
set_option linter.unusedVariables false
open Go.RowKit Proj
theorem up_parts {n b : Int} (hn : 0 ≤ n) (hb : 0 < b) : (n / b * b < n → up n b = n / b + 1) ∧ (¬ n / b * b < n → up n b = n / b) := by
  have h1 := Int.mul_ediv_add_emod n b
  have h2 := Int.emod_nonneg n (by omega : b ≠ 0)
  have h3 := Int.emod_lt_of_pos n hb
  have hc : b * (n / b) = n / b * b := Int.mul_comm _ _
  have hu := le_up (n := n) hb
  constructor
  · intro h
    apply Int.le_antisymm
    · apply up_le hb
      rw [Int.mul_add]; omega
    · by_cases hlt : up n b ≤ n / b
      · have := Int.mul_le_mul_of_nonneg_left hlt (by omega : 0 ≤ b); omega
      · omega
  · intro h
    apply Int.le_antisymm
    · apply up_le hb; omega
    · by_cases hlt : up n b ≤ n / b - 1
      · have h5 := Int.mul_le_mul_of_nonneg_left hlt (by omega : 0 ≤ b)
        rw [Int.mul_sub] at h5; omega
      · omega
set_option maxHeartbeats 1000000 in
theorem refUp_any (n b : Int) (w : World) (hn : 0 ≤ n) (hn2 : n ≤ 4611686018427387904) (hb : 0 < b) (hb2 : b ≤ 1073741824) :
    Calls Tryd.prog 71 #[.int .i64 n, .int .i64 b] w fun e w' => e = .returned (.int .i64 (up n b)) ∧ w = w' := by
  obtain ⟨p1, p2⟩ := up_parts hn hb
  have hq : Int.tdiv n b = n / b := Int.tdiv_eq_ediv_of_nonneg hn
  have hq0 : 0 ≤ n / b := Int.ediv_nonneg hn (by omega)
  have hq1 : n / b ≤ n := Int.ediv_le_self _ hn
  have hm0 : 0 ≤ n / b * b := Int.mul_nonneg hq0 (by omega)
  have hm1 : n / b * b ≤ n := by have h1 := Int.mul_ediv_add_emod n b; have h2 := Int.emod_nonneg n (by omega : b ≠ 0); rw [Int.mul_comm]; omega
  have hb0 : ¬ b = 0 := by omega
  by_cases hlt : n / b * b < n
  · have hu := p1 hlt
    generalize up n b = u at *
    subst hu
    clear p1 p2
    go_enter Tryd.func71, Tryd.ntmps71
    go_wp2
    go_ret
    exact ⟨rfl, rfl⟩
  · have hu := p2 hlt
    generalize up n b = u at *
    subst hu
    clear p1 p2
    go_enter Tryd.func71, Tryd.ntmps71
    go_wp2
    go_ret
    exact ⟨rfl, rfl⟩
set_option maxHeartbeats 1000000 in
theorem up_any (n b : Int) (w : World) (hn : 0 ≤ n) (hn2 : n ≤ 4611686018427387904) (hb : 0 < b) (hb2 : b ≤ 1073741824) :
    Calls Tryd.prog 70 #[.int .i64 n, .int .i64 b] w fun e w' => e = .returned (.int .i64 (up n b)) ∧ w = w' := by
  have hq : Int.tdiv (n + b - 1) b = (n + b - 1) / b := Int.tdiv_eq_ediv_of_nonneg (by omega)
  have hq0 : 0 ≤ (n + b - 1) / b := Int.ediv_nonneg (by omega) (by omega)
  have hq1 : (n + b - 1) / b ≤ n + b - 1 := Int.ediv_le_self _ (by omega)
  have hb0 : ¬ b = 0 := by omega
  unfold up
  generalize (n + b - 1) / b = q at *
  go_enter Tryd.func70, Tryd.ntmps70
  go_wp2
  go_ret
  exact ⟨rfl, rfl⟩
end Go.Proofs.YtcehaojohfbfkaaDoor
