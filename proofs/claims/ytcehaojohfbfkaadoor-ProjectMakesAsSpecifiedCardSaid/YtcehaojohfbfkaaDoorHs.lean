/-
  What Has is, in the program and in the reference. Conditions: none.
-/
import Derived.Test.YtcehaojohfbfkaaDoorJn
import Derived.Test.YtcehaojohfbfkaaDoorVec2
namespace Go.Proofs.YtcehaojohfbfkaaDoor
set_option linter.unusedSimpArgs false
set_option linter.unusedVariables false
open Go.RowKit Proj
theorem has_iff : ∀ (rs : List (Int × Int)) (ss : List Int), rs.length = ss.length → (has rs ss = true ↔ ∀ (k : Nat) (h : k < rs.length) (h' : k < ss.length), rs[k].1 ≤ ss[k] ∧ ss[k] ≤ rs[k].2)
  | [], [], _ => by simp [has]
  | [], _ :: _, h => by simp at h
  | _ :: _, [], h => by simp at h
  | r :: rs, s :: ss, h => by
    have ih := has_iff rs ss (by simpa using h)
    simp only [has, Bool.and_eq_true, decide_eq_true_eq, ih]
    constructor
    · intro ⟨h1, h2⟩ k hk hk'
      match k with
      | 0 => exact h1
      | k + 1 => exact h2 k (by simpa using hk) (by simpa using hk')
    · intro h1
      exact ⟨h1 0 (by simp) (by simp), fun k hk hk' => h1 (k + 1) (by simpa using hk) (by simpa using hk')⟩
theorem has_not {rs : List (Int × Int)} {ss : List Int} (hl : rs.length = ss.length) (k : Nat) (h : k < rs.length) (h' : k < ss.length) (hn : ¬ (rs[k].1 ≤ ss[k] ∧ ss[k] ≤ rs[k].2)) : has rs ss = false := by
  rw [Bool.eq_false_iff]
  intro hc
  exact hn ((has_iff rs ss hl).1 hc k h h')
set_option maxRecDepth 20000 in
set_option maxHeartbeats 4000000 in
theorem has_any (R : Option Addr) (n c : Nat) (rs : List (Int × Int)) (S : Option Addr) (d : Nat) (ss : List Int) (w : World) (hr : RdP w R n rs) (hs : Rd w S n (iv ss)) (hn : n ≤ 1000) :
    Calls Tryd.prog 25 #[.slice R n c, .slice S n d] w fun e w' => e = .returned (.bool (has rs ss)) ∧ Below w.heap.size w w' := by
  have HLr := Lib.hid hr.len
  have HLs := Lib.hid (show ss.length = n by have := hs.len; simpa using this)
  have HV := Lib.hid (has_iff rs ss (by rw [HLr.out, HLs.out]))
  generalize has rs ss = V at *
  go_enter Tryd.func25, Tryd.ntmps25
  go_wp2_with fail
  go_loopw [5, 6, 9] (fun _ _ j wr => ∃ k : Nat, k ≤ n ∧ j = .int .i64 k ∧ Below w.heap.size w wr ∧ Hid (∀ (i : Nat), i < k → ∀ (h : i < rs.length) (h' : i < ss.length), rs[i].1 ≤ ss[i] ∧ ss[i] ≤ rs[i].2)) (fun _ _ j _ => n - (intOf j).toNat)
  case atStart => exact ⟨0, Nat.zero_le _, rfl, Below.refl _ _, fun i h => by omega⟩
  case round =>
    obtain ⟨k, hk, rfl, hbw, hpre⟩ := hrel
    by_cases hlt : k < n
    · obtain ⟨rd, rfl, h0, h1⟩ := (hr.below hbw).get k (by have := HLr.out; omega)
      obtain ⟨sd, rfl, hc⟩ := (hs.below hbw).int hlt HLs.out
      have HK := Lib.hid (show ¬ (rs[k]'(by have := HLr.out; omega)).1 ≤ ss[k]'(by have := HLs.out; omega) ∨ ¬ ss[k]'(by have := HLs.out; omega) ≤ (rs[k]'(by have := HLr.out; omega)).2 → V = false by
        intro hh
        rw [Bool.eq_false_iff]
        intro hc
        have := HV.out.1 hc k (by have := HLr.out; omega) (by have := HLs.out; omega)
        omega)
      have HN : Hid (((rs[k]'(by have := HLr.out; omega)).1 ≤ ss[k]'(by have := HLs.out; omega) ∧ ss[k]'(by have := HLs.out; omega) ≤ (rs[k]'(by have := HLr.out; omega)).2) → ∀ (i : Nat), i < k + 1 → ∀ (h : i < rs.length) (h' : i < ss.length), rs[i].1 ≤ ss[i] ∧ ss[i] ≤ rs[i].2) := by
        intro hh i hi h h'
        rcases (by omega : i < k ∨ i = k) with h2 | h2
        · exact hpre.out i h2 h h'
        · subst h2; exact hh
      generalize (rs[k]'(by have := HLr.out; omega)) = r at *
      generalize (ss[k]'(by have := HLs.out; omega)) = x at *
      obtain ⟨lo, hi⟩ := r
      dsimp only at *
      go_wp2_with (first
        | (refine wpList_loadPair rfl rfl rfl (by kernel_rfl) (by kernel_rfl) h0 h1 ?_)
        | (refine wpList_allocP rfl rfl ?_; intro w2 g2 hg2 hbk hb2 hg3; have Hg2 := Lib.hid hg2; clear hg2)
        | (refine wpList_storeP rfl rfl rfl rfl hbk rfl rfl rfl ?_; intro w3 hbk3 hb3))
      have hB3 : Below wr.heap.size wr w3 := hb2.trans (hb3.mono (by rw [Hg2.out]; exact Nat.le_refl _))
      replace hc := cell_below hB3 hc
      have hk0 := hbk3.cell 0
      have hk1 := hbk3.cell 1
      simp only [List.getElem?_toArray, List.getElem?_cons_zero, List.getElem?_cons_succ] at hk0 hk1
      replace hbw := hbw.trans (hB3.mono hbw.size)
      clear hb2 hb3 hbk hbk3 h0 h1 hg3 Hg2 hB3
      by_cases c1 : x < lo
      · obtain rfl := HK.out (.inl (by omega))
        clear HV HK HN hpre
        have d1 : decide (x < lo) = true := decide_eq_true c1
        go_quiet (fail)
        go_wp2_with fail
        go_ret
        exact ⟨rfl, hbw.trans ⟨rfl, rfl, rfl, Nat.le_refl _, fun _ _ => rfl⟩⟩
      · have d1 : decide (x < lo) = false := decide_eq_false c1
        by_cases c2 : hi < x
        · obtain rfl := HK.out (.inr (by omega))
          clear HV HK HN hpre
          have d2 : decide (hi < x) = true := decide_eq_true c2
          go_quiet (fail)
          go_wp2_with fail
          go_ret
          exact ⟨rfl, hbw.trans ⟨rfl, rfl, rfl, Nat.le_refl _, fun _ _ => rfl⟩⟩
        · have d2 : decide (hi < x) = false := decide_eq_false c2
          go_quiet (fail)
          go_wp2_with fail
          exact ⟨⟨k + 1, by omega, by go_num, hbw.trans ⟨rfl, rfl, rfl, Nat.le_refl _, fun _ _ => rfl⟩, HN.out ⟨by omega, by omega⟩⟩, by simp [intOf]; omega⟩
    · obtain rfl : k = n := by omega
      obtain rfl : V = true := HV.out.2 (fun i h h' => hpre.out i (by have := HLr.out; omega) h h')
      clear HV
      go_wp2
      go_ret
      exact ⟨rfl, hbw⟩
set_option maxRecDepth 20000 in
set_option maxHeartbeats 4000000 in
theorem refHas_any (R : Option Addr) (n c : Nat) (rs : List (Int × Int)) (S : Option Addr) (d : Nat) (ss : List Int) (w : World) (hr : RdP w R n rs) (hs : Rd w S n (iv ss)) (hn : n ≤ 1000) :
    Calls Tryd.prog 26 #[.slice R n c, .slice S n d] w fun e w' => e = .returned (.bool (has rs ss)) ∧ Below w.heap.size w w' := by
  have HLr := Lib.hid hr.len
  have HLs := Lib.hid (show ss.length = n by have := hs.len; simpa using this)
  have HV := Lib.hid (has_iff rs ss (by rw [HLr.out, HLs.out]))
  generalize has rs ss = V at *
  go_enter Tryd.func26, Tryd.ntmps26
  go_wp2_with fail
  go_loopw [5] (fun j wr => ∃ k : Nat, k ≤ n ∧ j = .int .i64 k ∧ Below w.heap.size w wr ∧ Hid (∀ (i : Nat), i < k → ∀ (h : i < rs.length) (h' : i < ss.length), rs[i].1 ≤ ss[i] ∧ ss[i] ≤ rs[i].2)) (fun j _ => n - (intOf j).toNat)
  case atStart => exact ⟨0, Nat.zero_le _, rfl, Below.refl _ _, fun i h => by omega⟩
  case round =>
    obtain ⟨k, hk, rfl, hbw, hpre⟩ := hrel
    by_cases hlt : k < n
    · obtain ⟨rd, rfl, h0, h1⟩ := (hr.below hbw).get k (by have := HLr.out; omega)
      obtain ⟨sd, rfl, hc⟩ := (hs.below hbw).int hlt HLs.out
      have HK := Lib.hid (show ¬ (rs[k]'(by have := HLr.out; omega)).1 ≤ ss[k]'(by have := HLs.out; omega) ∨ ¬ ss[k]'(by have := HLs.out; omega) ≤ (rs[k]'(by have := HLr.out; omega)).2 → V = false by
        intro hh
        rw [Bool.eq_false_iff]
        intro hc
        have := HV.out.1 hc k (by have := HLr.out; omega) (by have := HLs.out; omega)
        omega)
      have HN : Hid (((rs[k]'(by have := HLr.out; omega)).1 ≤ ss[k]'(by have := HLs.out; omega) ∧ ss[k]'(by have := HLs.out; omega) ≤ (rs[k]'(by have := HLr.out; omega)).2) → ∀ (i : Nat), i < k + 1 → ∀ (h : i < rs.length) (h' : i < ss.length), rs[i].1 ≤ ss[i] ∧ ss[i] ≤ rs[i].2) := by
        intro hh i hi h h'
        rcases (by omega : i < k ∨ i = k) with h2 | h2
        · exact hpre.out i h2 h h'
        · subst h2; exact hh
      generalize (rs[k]'(by have := HLr.out; omega)) = r at *
      generalize (ss[k]'(by have := HLs.out; omega)) = x at *
      obtain ⟨lo, hi⟩ := r
      dsimp only at *
      go_wp2_with fail
      by_cases c1 : x < lo
      · obtain rfl := HK.out (.inl (by omega))
        clear HV HK HN hpre
        have d1 : decide (x < lo) = true := decide_eq_true c1
        go_quiet (fail)
        go_wp2_with fail
        go_ret
        exact ⟨rfl, hbw.trans ⟨rfl, rfl, rfl, Nat.le_refl _, fun _ _ => rfl⟩⟩
      · have d1 : decide (x < lo) = false := decide_eq_false c1
        by_cases c2 : hi < x
        · obtain rfl := HK.out (.inr (by omega))
          clear HV HK HN hpre
          have d2 : decide (hi < x) = true := decide_eq_true c2
          go_quiet (fail)
          go_wp2_with fail
          go_ret
          exact ⟨rfl, hbw.trans ⟨rfl, rfl, rfl, Nat.le_refl _, fun _ _ => rfl⟩⟩
        · have d2 : decide (hi < x) = false := decide_eq_false c2
          go_quiet (fail)
          go_wp2_with fail
          exact ⟨⟨k + 1, by omega, by go_num, hbw.trans ⟨rfl, rfl, rfl, Nat.le_refl _, fun _ _ => rfl⟩, HN.out ⟨by omega, by omega⟩⟩, by simp [intOf]; omega⟩
    · obtain rfl : k = n := by omega
      obtain rfl : V = true := HV.out.2 (fun i h h' => hpre.out i (by have := HLr.out; omega) h h')
      clear HV
      go_wp2
      go_ret
      exact ⟨rfl, hbw⟩
end Go.Proofs.YtcehaojohfbfkaaDoor
