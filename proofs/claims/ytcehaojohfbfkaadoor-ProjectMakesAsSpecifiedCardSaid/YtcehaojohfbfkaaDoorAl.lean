/-
  What the reference says of lists of integers that are compared, and of vectors that are alike. Conditions: none.
-/
import Derived.Test.YtcehaojohfbfkaaDoorSm
namespace Go.Proofs.YtcehaojohfbfkaaDoor
set_option linter.unusedSimpArgs false
set_option linter.unusedVariables false
open Go.RowKit Proj
set_option maxRecDepth 20000 in
set_option maxHeartbeats 4000000 in
theorem refCompare_any (A : Option Addr) (n c : Nat) (a : List Int) (B : Option Addr) (m d : Nat) (b : List Int) (w : World) (ha : Rd w A n (iv a)) (hb : Rd w B m (iv b)) (hn : n ≤ 1000) (hm : m ≤ 1000) :
    Calls Tryd.prog 50 #[.slice A n c, .slice B m d] w fun e w' => ∃ z : Int, e = .returned (.int .i64 z) ∧ (z = 0 ↔ a = b) ∧ Below w.heap.size w w' := by
  have HLa := Lib.hid (show a.length = n by have := ha.len; simpa using this)
  have HLb := Lib.hid (show b.length = m by have := hb.len; simpa using this)
  rcases Nat.lt_trichotomy n m with h1 | h1 | h1
  · have HV : Hid (a ≠ b) := Lib.hid (by intro h; have := HLa.out; have := HLb.out; rw [h] at *; omega)
    go_enter Tryd.func50, Tryd.ntmps50
    go_wp2
    go_ret
    exact ⟨-1, rfl, by simp [HV.out], Below.refl _ _⟩
  · subst h1
    go_enter Tryd.func50, Tryd.ntmps50
    go_wp2_with fail
    go_loopw [5] (fun j wr => ∃ k : Nat, k ≤ n ∧ j = .int .i64 k ∧ Below w.heap.size w wr ∧ Hid (a.take k = b.take k)) (fun j _ => n - (intOf j).toNat)
    case atStart => exact ⟨0, Nat.zero_le _, rfl, Below.refl _ _, Lib.hid (by simp)⟩
    case round =>
      obtain ⟨k, hk, rfl, hbw, hpre⟩ := hrel
      by_cases hlt : k < n
      · obtain ⟨ad, rfl, ha0⟩ := (ha.below hbw).int hlt HLa.out
        obtain ⟨bd, rfl, hb0⟩ := (hb.below hbw).int hlt HLb.out
        have HT := Lib.hid (List.take_succ_eq_append_getElem (show k < a.length by have := HLa.out; omega))
        have HT2 := Lib.hid (List.take_succ_eq_append_getElem (show k < b.length by have := HLb.out; omega))
        have HE := Lib.hid (show a[k]'(by have := HLa.out; omega) ≠ b[k]'(by have := HLb.out; omega) → a ≠ b from fun h1 h2 => h1 (by subst h2; rfl))
        generalize (a[k]'(by have := HLa.out; omega)) = x at *
        generalize (b[k]'(by have := HLb.out; omega)) = y at *
        go_wp2_with fail
        by_cases c1 : x < y
        · have d1 : decide (x < y) = true := decide_eq_true c1
          go_quiet (fail)
          go_wp2_with fail
          go_ret
          exact ⟨-1, rfl, by simp [HE.out (by omega)], hbw.trans ⟨rfl, rfl, rfl, Nat.le_refl _, fun _ _ => rfl⟩⟩
        · have d1 : decide (x < y) = false := decide_eq_false c1
          go_quiet (fail)
          go_wp2_with fail
          by_cases c2 : y < x
          · have d2 : decide (y < x) = true := decide_eq_true c2
            go_quiet (fail)
            go_wp2_with fail
            go_ret
            exact ⟨1, rfl, by simp [HE.out (by omega)], hbw.trans ⟨rfl, rfl, rfl, Nat.le_refl _, fun _ _ => rfl⟩⟩
          · have d2 : decide (y < x) = false := decide_eq_false c2
            have HN : Hid (a.take (k + 1) = b.take (k + 1)) := Lib.hid (by rw [HT.out, HT2.out, hpre.out, show x = y by omega])
            go_quiet (fail)
            go_wp2_with fail
            exact ⟨⟨k + 1, by omega, by go_num, hbw.trans ⟨rfl, rfl, rfl, Nat.le_refl _, fun _ _ => rfl⟩, HN⟩, by simp [intOf]; omega⟩
      · obtain rfl : k = n := by omega
        have HE : Hid (a = b) := Lib.hid (by have := hpre.out; rwa [List.take_of_length_le (by have := HLa.out; omega), List.take_of_length_le (by have := HLb.out; omega)] at this)
        go_wp2
        go_ret
        exact ⟨0, rfl, by simp [HE.out], hbw⟩
  · have HV : Hid (a ≠ b) := Lib.hid (by intro h; have := HLa.out; have := HLb.out; rw [h] at *; omega)
    go_enter Tryd.func50, Tryd.ntmps50
    go_wp2
    go_ret
    exact ⟨1, rfl, by simp [HV.out], Below.refl _ _⟩
set_option maxRecDepth 20000 in
theorem sameInts_any (A : Option Addr) (n c : Nat) (a : List Int) (B : Option Addr) (m d : Nat) (b : List Int) (w : World) (ha : Rd w A n (iv a)) (hb : Rd w B m (iv b)) (hn : n ≤ 1000) (hm : m ≤ 1000) :
    Calls Tryd.prog 23 #[.slice A n c, .slice B m d] w fun e w' => e = .returned (.bool (decide (a = b))) ∧ Below w.heap.size w w' := by
  go_enter Tryd.func23, Tryd.ntmps23
  go_wp2_with fail
  refine (refCompare_any A n c a B m d b _ ha hb hn hm).mono ?_
  rintro e w1 ⟨z, rfl, hz, hb1⟩
  have HZ : Hid ((z == 0) = decide (a = b)) := Lib.hid (by by_cases h : z = 0 <;> simp [h, ← hz])
  clear hz
  go_wp2_with fail
  go_ret
  refine ⟨?_, hb1⟩
  rw [← HZ.out]
  rfl
theorem alike_any (A : Option Addr) (n c : Nat) (a : List Int) (B : Option Addr) (m d : Nat) (b : List Int) (w : World) (ha : Rd w A n (iv a)) (hb : Rd w B m (iv b)) (hn : n ≤ 9223372036854775807) (hm : m ≤ 9223372036854775807) :
    Calls Tryd.prog 34 #[.slice A n c, .slice B m d] w fun e w' => e = .returned (.bool (vecB a && vecB b && decide (a.length = b.length))) ∧ w = w' := by
  have HLa := Lib.hid (show a.length = n by have := ha.len; simpa using this)
  have HLb := Lib.hid (show b.length = m by have := hb.len; simpa using this)
  have H1 := Lib.hid (refValid_any A n c a w hn ha)
  have H2 := Lib.hid (refValid_any B m d b w hm hb)
  rw [HLa.out, HLb.out]
  generalize vecB a = X at *
  generalize vecB b = Y at *
  clear ha hb
  cases X
  · go_enter Tryd.func34, Tryd.ntmps34
    go_wp2_with fail
    refine H1.out.mono ?_
    rintro e w1 ⟨rfl, rfl⟩
    go_wp2_with fail
    go_ret
    exact ⟨rfl, rfl⟩
  · go_enter Tryd.func34, Tryd.ntmps34
    go_wp2_with fail
    refine H1.out.mono ?_
    rintro e w1 ⟨rfl, rfl⟩
    go_wp2_with fail
    refine H2.out.mono ?_
    rintro e w1 ⟨rfl, rfl⟩
    cases Y
    · go_wp2_with fail
      go_ret
      exact ⟨rfl, rfl⟩
    · by_cases hnm : n = m
      · subst hnm
        have h1 : ((n : Int) == (n : Int)) = true := by simp
        go_wp2_with fail
        go_ret
        exact ⟨by simp, rfl⟩
      · have h1 : ((n : Int) == (m : Int)) = false := by simp; omega
        go_wp2_with fail
        go_ret
        exact ⟨by simp [hnm], rfl⟩
end Go.Proofs.YtcehaojohfbfkaaDoor
