/-
  What the products of two lists compute, in the program and in the reference. Conditions: the numbers are small.
-/
import Derived.Test.YtcehaojohfbfkaaDoorMat
import Derived.Test.YtcehaojohfbfkaaDoorRegion
import Derived.Test.YtcehaojohfbfkaaDoorProj
namespace Go.Proofs.YtcehaojohfbfkaaDoor
set_option linter.unusedSimpArgs false
set_option linter.unusedVariables false
open Go.RowKit Proj
theorem mul_small {x y A B : Int} (hx : ab x ≤ A) (hy : ab y ≤ B) : ab (x * y) ≤ A * B := by
  rw [ab_mul]
  exact Int.le_trans (Int.mul_le_mul_of_nonneg_right hx (ab_nonneg y)) (Int.mul_le_mul_of_nonneg_left hy (Int.le_trans (ab_nonneg x) hx))
theorem dot_small (a b : List Int) (hn : a.length ≤ 64) (hA : ∀ x ∈ a, ab x ≤ 1000) (hB : ∀ y ∈ b, ab y ≤ 1000) : ab (dot a b) ≤ 64000000 := by
  have h1 := dot_13 a b
  have h2 := n1_bound 1000 a hA
  have h3 := n3_bound 1000 (by omega) b hB
  have h4 := n3_nonneg b
  have h5 : n1 a * n3 b ≤ (a.length * 1000) * n3 b := Int.mul_le_mul_of_nonneg_right h2 h4
  have h6 : (a.length * 1000 : Int) * n3 b ≤ (a.length * 1000) * 1000 := Int.mul_le_mul_of_nonneg_left h3 (by omega)
  omega
set_option maxHeartbeats 1000000 in
theorem dot_any (A : Option Addr) (n c : Nat) (a : List Int) (B : Option Addr) (m d : Nat) (b : List Int) (w : World) (ha : Rd w A n (iv a)) (hb : Rd w B m (iv b)) (hnm : n ≤ m) (hn : n ≤ 64) (hA : ∀ x ∈ a, ab x ≤ 1000) (hB : ∀ y ∈ b, ab y ≤ 1000) :
    Calls Tryd.prog 51 #[.slice A n c, .slice B m d] w fun e w' => e = .returned (.int .i64 (dot a b)) ∧ w = w' := by
  have HLa := Lib.hid (show a.length = n by have := ha.len; simpa using this)
  have HLb := Lib.hid (show b.length = m by have := hb.len; simpa using this)
  have HA := Lib.hid hA
  have HB := Lib.hid hB
  clear hA hB
  go_enter Tryd.func51, Tryd.ntmps51
  go_wp2_with fail
  go_loop [5, 6, 7, 10] (fun s i x j => ∃ k : Nat, k ≤ n ∧ j = .int .i64 k ∧ s = .int .i64 (dot (a.take k) b)) (fun _ _ _ j => n - (intOf j).toNat)
  case atStart => exact ⟨0, Nat.zero_le _, rfl, by simp [dot]⟩
  case round =>
    obtain ⟨k, hk, rfl, rfl⟩ := hrel
    by_cases hlt : k < n
    · obtain ⟨ad, rfl, hc⟩ := ha.int hlt HLa.out
      obtain ⟨bd, rfl, hd⟩ := hb.int (k := k) (by omega) HLb.out
      have HS := Lib.hid (dot_step a b k (by have := HLa.out; omega) (by have := HLb.out; omega))
      have h1 := dot_small (a.take k) b (by rw [List.length_take]; omega) (fun x hx => HA.out x (List.mem_of_mem_take hx)) HB.out
      have h2 := mul_small (HA.out (a[k]'(by have := HLa.out; omega)) (List.getElem_mem _)) (HB.out (b[k]'(by have := HLb.out; omega)) (List.getElem_mem _))
      generalize a[k]'(by have := HLa.out; omega) = x at *
      generalize b[k]'(by have := HLb.out; omega) = y at *
      generalize dot (a.take k) b = s at *
      have h3 : -1000000 ≤ x * y ∧ x * y ≤ 1000000 := by unfold ab at h2; omega
      have h4 : -64000000 ≤ s ∧ s ≤ 64000000 := by unfold ab at h1; omega
      obtain ⟨h3a, h3b⟩ := h3
      obtain ⟨h4a, h4b⟩ := h4
      clear h1 h2
      go_wp2_with fail
      refine ⟨⟨k + 1, by omega, by go_num, ?_⟩, by simp [intOf]; omega⟩
      rw [HS.out]
    · obtain rfl : k = n := by omega
      have HT := Lib.hid (show a.take k = a by rw [List.take_of_length_le (by have := HLa.out; omega)])
      rw [HT.out]
      go_wp2
      go_ret
      exact ⟨rfl, rfl⟩
set_option maxHeartbeats 1000000 in
theorem refDot_any (A : Option Addr) (n c : Nat) (a : List Int) (B : Option Addr) (m d : Nat) (b : List Int) (w : World) (ha : Rd w A n (iv a)) (hb : Rd w B m (iv b)) (hnm : n ≤ m) (hn : n ≤ 64) (hA : ∀ x ∈ a, ab x ≤ 1000) (hB : ∀ y ∈ b, ab y ≤ 1000) :
    Calls Tryd.prog 48 #[.slice A n c, .slice B m d] w fun e w' => e = .returned (.int .i64 (dot a b)) ∧ Below w.heap.size w w' := by
  have HLa := Lib.hid (show a.length = n by have := ha.len; simpa using this)
  have HLb := Lib.hid (show b.length = m by have := hb.len; simpa using this)
  have HA := Lib.hid hA
  have HB := Lib.hid hB
  clear hA hB
  go_enter Tryd.func48, Tryd.ntmps48
  go_wp2_with fail
  go_loopw [5, 6] (fun s j wr => ∃ k : Nat, k ≤ n ∧ j = .int .i64 k ∧ s = .int .i64 (dot (a.take k) b) ∧ Below w.heap.size w wr) (fun _ j _ => n - (intOf j).toNat)
  case atStart => exact ⟨0, Nat.zero_le _, rfl, by simp [dot], Below.refl _ _⟩
  case round =>
    obtain ⟨k, hk, rfl, rfl, hbw⟩ := hrel
    by_cases hlt : k < n
    · obtain ⟨ad, rfl, hc⟩ := (ha.below hbw).int hlt HLa.out
      obtain ⟨bd, rfl, hd⟩ := (hb.below hbw).int (k := k) (by omega) HLb.out
      have HS := Lib.hid (dot_step a b k (by have := HLa.out; omega) (by have := HLb.out; omega))
      have h1 := dot_small (a.take k) b (by rw [List.length_take]; omega) (fun x hx => HA.out x (List.mem_of_mem_take hx)) HB.out
      have h2 := mul_small (HA.out (a[k]'(by have := HLa.out; omega)) (List.getElem_mem _)) (HB.out (b[k]'(by have := HLb.out; omega)) (List.getElem_mem _))
      generalize a[k]'(by have := HLa.out; omega) = x at *
      generalize b[k]'(by have := HLb.out; omega) = y at *
      generalize dot (a.take k) b = s at *
      have h3 : -1000000 ≤ x * y ∧ x * y ≤ 1000000 := by unfold ab at h2; omega
      have h4 : -64000000 ≤ s ∧ s ≤ 64000000 := by unfold ab at h1; omega
      obtain ⟨h3a, h3b⟩ := h3
      obtain ⟨h4a, h4b⟩ := h4
      clear h1 h2
      go_wp2_with fail
      go_quiet (fail)
      go_wp2_with fail
      refine ⟨⟨k + 1, by omega, by go_num, ?_, hbw.trans ⟨rfl, rfl, rfl, Nat.le_refl _, fun _ _ => rfl⟩⟩, by simp [intOf]; omega⟩
      rw [HS.out]
    · obtain rfl : k = n := by omega
      have HT := Lib.hid (show a.take k = a by rw [List.take_of_length_le (by have := HLa.out; omega)])
      rw [HT.out]
      go_wp2
      go_ret
      exact ⟨rfl, hbw⟩
end Go.Proofs.YtcehaojohfbfkaaDoor
