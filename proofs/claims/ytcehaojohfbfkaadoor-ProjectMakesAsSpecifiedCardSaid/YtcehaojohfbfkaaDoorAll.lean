/-
  What the reference says of lists of vectors, of ranges, and of lines. Conditions: none.
-/
import Derived.Test.YtcehaojohfbfkaaDoorAl
namespace Go.Proofs.YtcehaojohfbfkaaDoor
set_option linter.unusedSimpArgs false
set_option linter.unusedVariables false
open Go.RowKit Proj
def allB (ls : List (List Int)) (most : Int) : Bool := decide (1 ≤ ls.length ∧ (ls.length : Int) ≤ most ∧ ∀ l ∈ ls, vecB l = true ∧ l.length = (ls.headD []).length)
theorem head_get {α : Type} (l : List α) (z : α) (h : 0 < l.length) : l.headD z = l[0] := by cases l with
  | nil => simp at h
  | cons x l => rfl
set_option maxRecDepth 20000 in
set_option maxHeartbeats 4000000 in
theorem all_any (A : Option Addr) (n c : Nat) (ls : List (List Int)) (most : Int) (w : World) (ha : RdR w A n ls) (hn : n ≤ 9223372036854775807) :
    Calls Tryd.prog 46 #[.slice A n c, .int .i64 most] w fun e w' => e = .returned (.bool (allB ls most)) ∧ Below w.heap.size w w' := by
  have HLa := Lib.hid ha.len
  have HV := Lib.hid (show allB ls most = true ↔ (1 ≤ ls.length ∧ (ls.length : Int) ≤ most ∧ ∀ l ∈ ls, vecB l = true ∧ l.length = (ls.headD []).length) by unfold allB; exact decide_eq_true_iff)
  generalize allB ls most = V at *
  go_enter Tryd.func46, Tryd.ntmps46
  go_wp2_with fail
  go_loopw [5] (fun j wr => ∃ k : Nat, k ≤ n ∧ j = .int .i64 k ∧ Below w.heap.size w wr ∧ Hid (∀ l ∈ ls.take k, vecB l = true ∧ l.length = (ls.headD []).length)) (fun j _ => n - (intOf j).toNat)
  case atStart => exact ⟨0, Nat.zero_le _, rfl, Below.refl _ _, Lib.hid (by simp)⟩
  case round =>
    obtain ⟨k, hk, rfl, hbw, hpre⟩ := hrel
    by_cases hlt : k < n
    · obtain ⟨ad, L, c', rfl, hc, hlc, hcm, hrl⟩ := (ha.below hbw).row k (by have := HLa.out; omega)
      obtain ⟨ad', L0, c0, h0, hd, hlc0, hcm0, hrl0⟩ := (ha.below hbw).row 0 (by have := HLa.out; omega)
      injection h0 with h0
      subst h0
      have hd' := hd
      rw [show ad.add 0 = ad from rfl] at hd'
      have HH := Lib.hid (head_get ls [] (by have := HLa.out; omega))
      have HT := Lib.hid (List.take_succ_eq_append_getElem (show k < ls.length by have := HLa.out; omega))
      have HM := Lib.hid (List.getElem_mem (show k < ls.length by have := HLa.out; omega))
      generalize (ls[k]'(by have := HLa.out; omega)) = l at *
      generalize (ls[0]'(by have := HLa.out; omega)) = l0 at *
      simp only [maxLen] at hcm hcm0
      go_wp2_with fail
      by_cases hg : (vecB l0 && vecB l && decide (l0.length = l.length)) = true
      · have HC := Lib.hid (alike_any L0 l0.length c0 l0 L l.length c' l wr.drew (hrl0.below (Below.refl _ _).drew) (hrl.below (Below.refl _ _).drew) (by omega) (by omega))
        rw [hg] at HC
        have HN : Hid (∀ x ∈ ls.take (k + 1), vecB x = true ∧ x.length = (ls.headD []).length) := Lib.hid (by
          rw [HT.out]
          intro x hx
          rcases List.mem_append.1 hx with hx | hx
          · exact hpre.out x hx
          · simp at hx; subst hx
            simp only [Bool.and_eq_true, decide_eq_true_eq] at hg
            exact ⟨hg.1.2, by rw [HH.out, hg.2]⟩)
        clear hg hpre hrl hrl0
        refine wp_region_T 9 (by kernel_rfl) ?_
        -- region 4: 9 operations, tail from 9
        refine WpT.take (i := 0) rfl (by kernel_rfl) (fun _ _ _ h => h) (.inl ⟨by rfl, fun w hSw => by clear hSw; go_simp; (try go_bits); (try rw [if_pos (by omega)]); (try with_reducible rfl)⟩) ((Below.refl _ _).drew) ?_
        try simp only [Act.put, List.setIfInBounds_toArray, List.set_cons_zero, List.set_cons_succ]
        refine WpT.take (i := 1) rfl (by kernel_rfl) (fun _ _ _ h => h) (.inl ⟨by rfl, fun w hSw => by clear hSw; go_simp; (try go_bits); (try rw [if_pos (by omega)]); (try with_reducible rfl)⟩) ((Below.refl _ _).drew) ?_
        try simp only [Act.put, List.setIfInBounds_toArray, List.set_cons_zero, List.set_cons_succ]
        refine WpT.take (i := 2) rfl (by kernel_rfl) (fun _ _ _ h => h) (yields_load rfl rfl rfl (by kernel_rfl) (by assumption)) ((Below.refl _ _).drew) ?_
        try simp only [Act.put, List.setIfInBounds_toArray, List.set_cons_zero, List.set_cons_succ]
        refine WpT.take (i := 3) rfl (by kernel_rfl) (fun _ _ _ h => h) (.inl ⟨by rfl, fun w hSw => by clear hSw; go_simp; (try go_bits); (try rw [if_pos (by omega)]); (try with_reducible rfl)⟩) ((Below.refl _ _).drew) ?_
        try simp only [Act.put, List.setIfInBounds_toArray, List.set_cons_zero, List.set_cons_succ]
        refine WpT.take (i := 4) rfl (by kernel_rfl) (fun _ _ _ h => h) (.inl ⟨by rfl, fun w hSw => by clear hSw; go_simp; (try go_bits); (try rw [if_pos (by omega)]); (try with_reducible rfl)⟩) ((Below.refl _ _).drew) ?_
        try simp only [Act.put, List.setIfInBounds_toArray, List.set_cons_zero, List.set_cons_succ]
        refine WpT.take (i := 5) rfl (by kernel_rfl) (fun _ _ _ h => h) (.inl ⟨by rfl, fun w hSw => by clear hSw; go_simp; (try go_bits); (try rw [if_pos (by omega)]); (try with_reducible rfl)⟩) ((Below.refl _ _).drew) ?_
        try simp only [Act.put, List.setIfInBounds_toArray, List.set_cons_zero, List.set_cons_succ]
        refine WpT.take (i := 6) rfl (by kernel_rfl) (fun _ _ _ h => h) (yields_load rfl rfl rfl (by kernel_rfl) (by assumption)) ((Below.refl _ _).drew) ?_
        try simp only [Act.put, List.setIfInBounds_toArray, List.set_cons_zero, List.set_cons_succ]
        refine WpT.one (i := 7) rfl (by kernel_rfl) (fun K hK => ?_)
        go_simp; refine HC.out.mono ?_; rintro e w2 ⟨rfl, rfl⟩
        refine hK _ _ (by repeat' (first | assumption | exact Below.refl _ _ | apply Below.drew | refine Below.alloc ?_ ?_ _ | refine Below.setCell ?_ ?_ _ | (simp; done) | (simp; omega) | omega)) ?_; clear hK K; try simp only [Act.put, List.setIfInBounds_toArray, List.set_cons_zero, List.set_cons_succ]
        refine WpT.take (i := 8) rfl (by kernel_rfl) (fun _ _ _ h => h) (.inl ⟨by rfl, fun w hSw => by clear hSw; go_simp; (try go_bits); (try rw [if_pos (by omega)]); (try with_reducible rfl)⟩) (by repeat' (first | assumption | exact Below.refl _ _ | apply Below.drew | refine Below.alloc ?_ ?_ _ | refine Below.setCell ?_ ?_ _ | (simp; done) | (simp; omega) | omega)) ?_
        try simp only [Act.put, List.setIfInBounds_toArray, List.set_cons_zero, List.set_cons_succ]
        refine WpT.done (by kernel_rfl) ?_ _
        go_wp2_with fail
        exact ⟨⟨k + 1, by omega, by go_num, hbw.trans ⟨rfl, rfl, rfl, Nat.le_refl _, fun _ _ => rfl⟩, HN⟩, by simp [intOf]; omega⟩
      · have hg2 : (vecB l0 && vecB l && decide (l0.length = l.length)) = false := by simpa using hg
        have HC := Lib.hid (alike_any L0 l0.length c0 l0 L l.length c' l wr.drew (hrl0.below (Below.refl _ _).drew) (hrl.below (Below.refl _ _).drew) (by omega) (by omega))
        rw [hg2] at HC
        obtain rfl : V = false := by
          rw [Bool.eq_false_iff]
          intro hv
          have h1 := (HV.out.1 hv).2.2
          have h2 := h1 l HM.out
          have h3 := h1 l0 (by rw [← HH.out]; cases ls with
            | nil => have := HLa.out; simp at this; omega
            | cons x xs => simp)
          rw [HH.out] at h2
          exact hg (by simp [h2.1, h3.1, h2.2])
        clear hg hg2 hpre hrl hrl0 HV
        refine wp_region_T 9 (by kernel_rfl) ?_
        -- region 4: 9 operations, tail from 9
        refine WpT.take (i := 0) rfl (by kernel_rfl) (fun _ _ _ h => h) (.inl ⟨by rfl, fun w hSw => by clear hSw; go_simp; (try go_bits); (try rw [if_pos (by omega)]); (try with_reducible rfl)⟩) ((Below.refl _ _).drew) ?_
        try simp only [Act.put, List.setIfInBounds_toArray, List.set_cons_zero, List.set_cons_succ]
        refine WpT.take (i := 1) rfl (by kernel_rfl) (fun _ _ _ h => h) (.inl ⟨by rfl, fun w hSw => by clear hSw; go_simp; (try go_bits); (try rw [if_pos (by omega)]); (try with_reducible rfl)⟩) ((Below.refl _ _).drew) ?_
        try simp only [Act.put, List.setIfInBounds_toArray, List.set_cons_zero, List.set_cons_succ]
        refine WpT.take (i := 2) rfl (by kernel_rfl) (fun _ _ _ h => h) (yields_load rfl rfl rfl (by kernel_rfl) (by assumption)) ((Below.refl _ _).drew) ?_
        try simp only [Act.put, List.setIfInBounds_toArray, List.set_cons_zero, List.set_cons_succ]
        refine WpT.take (i := 3) rfl (by kernel_rfl) (fun _ _ _ h => h) (.inl ⟨by rfl, fun w hSw => by clear hSw; go_simp; (try go_bits); (try rw [if_pos (by omega)]); (try with_reducible rfl)⟩) ((Below.refl _ _).drew) ?_
        try simp only [Act.put, List.setIfInBounds_toArray, List.set_cons_zero, List.set_cons_succ]
        refine WpT.take (i := 4) rfl (by kernel_rfl) (fun _ _ _ h => h) (.inl ⟨by rfl, fun w hSw => by clear hSw; go_simp; (try go_bits); (try rw [if_pos (by omega)]); (try with_reducible rfl)⟩) ((Below.refl _ _).drew) ?_
        try simp only [Act.put, List.setIfInBounds_toArray, List.set_cons_zero, List.set_cons_succ]
        refine WpT.take (i := 5) rfl (by kernel_rfl) (fun _ _ _ h => h) (.inl ⟨by rfl, fun w hSw => by clear hSw; go_simp; (try go_bits); (try rw [if_pos (by omega)]); (try with_reducible rfl)⟩) ((Below.refl _ _).drew) ?_
        try simp only [Act.put, List.setIfInBounds_toArray, List.set_cons_zero, List.set_cons_succ]
        refine WpT.take (i := 6) rfl (by kernel_rfl) (fun _ _ _ h => h) (yields_load rfl rfl rfl (by kernel_rfl) (by assumption)) ((Below.refl _ _).drew) ?_
        try simp only [Act.put, List.setIfInBounds_toArray, List.set_cons_zero, List.set_cons_succ]
        refine WpT.one (i := 7) rfl (by kernel_rfl) (fun K hK => ?_)
        go_simp; refine HC.out.mono ?_; rintro e w2 ⟨rfl, rfl⟩
        refine hK _ _ (by repeat' (first | assumption | exact Below.refl _ _ | apply Below.drew | refine Below.alloc ?_ ?_ _ | refine Below.setCell ?_ ?_ _ | (simp; done) | (simp; omega) | omega)) ?_; clear hK K; try simp only [Act.put, List.setIfInBounds_toArray, List.set_cons_zero, List.set_cons_succ]
        refine WpT.take (i := 8) rfl (by kernel_rfl) (fun _ _ _ h => h) (.inl ⟨by rfl, fun w hSw => by clear hSw; go_simp; (try go_bits); (try rw [if_pos (by omega)]); (try with_reducible rfl)⟩) (by repeat' (first | assumption | exact Below.refl _ _ | apply Below.drew | refine Below.alloc ?_ ?_ _ | refine Below.setCell ?_ ?_ _ | (simp; done) | (simp; omega) | omega)) ?_
        try simp only [Act.put, List.setIfInBounds_toArray, List.set_cons_zero, List.set_cons_succ]
        refine WpT.done (by kernel_rfl) ?_ _
        go_wp2_with fail
        go_ret
        exact ⟨rfl, hbw.trans ⟨rfl, rfl, rfl, Nat.le_refl _, fun _ _ => rfl⟩⟩
    · obtain rfl : k = n := by omega
      have hall := hpre.out
      rw [List.take_of_length_le (by have := HLa.out; omega)] at hall
      by_cases c1 : 1 ≤ k
      · by_cases c2 : (k : Int) ≤ most
        · obtain rfl : V = true := HV.out.2 ⟨by rw [HLa.out]; exact c1, by rw [HLa.out]; exact c2, hall⟩
          clear HV hall hpre
          have d1 : decide ((1 : Int) ≤ (k : Int)) = true := by simp; omega
          have d2 : decide ((k : Int) ≤ most) = true := by simp; omega
          go_wp2
          go_ret
          exact ⟨rfl, hbw⟩
        · obtain rfl : V = false := by
            rw [Bool.eq_false_iff]; intro hv; have := (HV.out.1 hv).2.1; rw [HLa.out] at this; exact c2 this
          clear HV hall hpre
          have d1 : decide ((1 : Int) ≤ (k : Int)) = true := by simp; omega
          have d2 : decide ((k : Int) ≤ most) = false := by simp; omega
          go_wp2
          go_ret
          exact ⟨rfl, hbw⟩
      · obtain rfl : V = false := by
          rw [Bool.eq_false_iff]; intro hv; have := (HV.out.1 hv).1; rw [HLa.out] at this; exact c1 this
        clear HV hall hpre
        have d1 : decide ((1 : Int) ≤ (k : Int)) = false := by simp; omega
        go_wp2
        go_ret
        exact ⟨rfl, hbw⟩
def rangesB (rs : List (Int × Int)) (n : Int) : Bool := decide ((rs.length : Int) = n ∧ ∀ r ∈ rs, r.1 ≤ r.2 ∧ -1073741824 ≤ r.1 ∧ r.2 ≤ 1073741824)
set_option maxRecDepth 20000 in
set_option maxHeartbeats 4000000 in
theorem ranges_any (R : Option Addr) (n c : Nat) (rs : List (Int × Int)) (N : Int) (w : World) (hr : RdP w R n rs) (hn : n ≤ 9223372036854775807) :
    Calls Tryd.prog 30 #[.slice R n c, .int .i64 N] w fun e w' => e = .returned (.bool (rangesB rs N)) ∧ Below w.heap.size w w' := by
  have HLr := Lib.hid hr.len
  have HV := Lib.hid (show rangesB rs N = true ↔ ((rs.length : Int) = N ∧ ∀ r ∈ rs, r.1 ≤ r.2 ∧ -1073741824 ≤ r.1 ∧ r.2 ≤ 1073741824) by unfold rangesB; exact decide_eq_true_iff)
  generalize rangesB rs N = V at *
  go_enter Tryd.func30, Tryd.ntmps30
  go_wp2_with fail
  go_loopw [5] (fun j wr => ∃ k : Nat, k ≤ n ∧ j = .int .i64 k ∧ Below w.heap.size w wr ∧ Hid (∀ r ∈ rs.take k, r.1 ≤ r.2 ∧ -1073741824 ≤ r.1 ∧ r.2 ≤ 1073741824)) (fun j _ => n - (intOf j).toNat)
  case atStart => exact ⟨0, Nat.zero_le _, rfl, Below.refl _ _, Lib.hid (by simp)⟩
  case round =>
    obtain ⟨k, hk, rfl, hbw, hpre⟩ := hrel
    by_cases hlt : k < n
    · obtain ⟨rd, rfl, h0, h1⟩ := (hr.below hbw).get k (by have := HLr.out; omega)
      have HT := Lib.hid (List.take_succ_eq_append_getElem (show k < rs.length by have := HLr.out; omega))
      have HM := Lib.hid (List.getElem_mem (show k < rs.length by have := HLr.out; omega))
      generalize (rs[k]'(by have := HLr.out; omega)) = r at *
      obtain ⟨lo, hi⟩ := r
      have HF : Hid (¬ (lo ≤ hi ∧ -1073741824 ≤ lo ∧ hi ≤ 1073741824) → V = false) := Lib.hid (by
        intro h
        rw [Bool.eq_false_iff]
        intro hv
        exact h ((HV.out.1 hv).2 _ HM.out))
      dsimp only at *
      go_wp2_with fail
      by_cases c1 : hi < lo
      · have d1 : decide (hi < lo) = true := decide_eq_true c1
        obtain rfl := HF.out (by omega)
        clear HV HF
        go_quiet (fail)
        go_wp2_with fail
        go_ret
        exact ⟨rfl, hbw.trans ⟨rfl, rfl, rfl, Nat.le_refl _, fun _ _ => rfl⟩⟩
      · have d1 : decide (hi < lo) = false := decide_eq_false c1
        by_cases c2 : lo < -1073741824
        · have d2 : decide (lo < -1073741824) = true := decide_eq_true c2
          obtain rfl := HF.out (by omega)
          clear HV HF
          go_quiet (fail)
          go_wp2_with fail
          go_ret
          exact ⟨rfl, hbw.trans ⟨rfl, rfl, rfl, Nat.le_refl _, fun _ _ => rfl⟩⟩
        · have d2 : decide (lo < -1073741824) = false := decide_eq_false c2
          by_cases c3 : 1073741824 < hi
          · have d3 : decide (1073741824 < hi) = true := decide_eq_true c3
            obtain rfl := HF.out (by omega)
            clear HV HF
            go_quiet (fail)
            go_wp2_with fail
            go_ret
            exact ⟨rfl, hbw.trans ⟨rfl, rfl, rfl, Nat.le_refl _, fun _ _ => rfl⟩⟩
          · have d3 : decide (1073741824 < hi) = false := decide_eq_false c3
            have HN : Hid (∀ r ∈ rs.take (k + 1), r.1 ≤ r.2 ∧ -1073741824 ≤ r.1 ∧ r.2 ≤ 1073741824) := Lib.hid (by
              rw [HT.out]
              intro x hx
              rcases List.mem_append.1 hx with hx | hx
              · exact hpre.out x hx
              · simp at hx; subst hx; exact ⟨by simp; omega, by simp; omega, by simp; omega⟩)
            go_quiet (fail)
            go_wp2_with fail
            exact ⟨⟨k + 1, by omega, by go_num, hbw.trans ⟨rfl, rfl, rfl, Nat.le_refl _, fun _ _ => rfl⟩, HN⟩, by simp [intOf]; omega⟩
    · obtain rfl : k = n := by omega
      have hall := hpre.out
      rw [List.take_of_length_le (by have := HLr.out; omega)] at hall
      by_cases c1 : (k : Int) = N
      · obtain rfl : V = true := HV.out.2 ⟨by rw [HLr.out]; exact c1, hall⟩
        clear HV hall hpre
        have d1 : ((k : Int) == N) = true := by simp [c1]
        go_wp2
        go_ret
        exact ⟨rfl, hbw⟩
      · obtain rfl : V = false := by
          rw [Bool.eq_false_iff]; intro hv; have := (HV.out.1 hv).1; rw [HLr.out] at this; exact c1 this
        clear HV hall hpre
        have d1 : ((k : Int) == N) = false := by simp [c1]
        go_wp2
        go_ret
        exact ⟨rfl, hbw⟩
def slope (x : Int) : Prop := -16 ≤ x ∧ x ≤ 16
instance (x : Int) : Decidable (slope x) := inferInstanceAs (Decidable (_ ∧ _))
def someB (l : List Int) : Bool := l.any (fun x => x != 0)
def steepB (l : List Int) (dims : Int) : Bool := decide ((∀ x ∈ l, slope x) ∧ someB l = true ∧ (l.length : Int) = dims)
set_option maxRecDepth 20000 in
set_option maxHeartbeats 4000000 in
theorem steep_any (A : Option Addr) (n c : Nat) (l : List Int) (dims : Int) (w : World) (hn : n ≤ 9223372036854775807) (hr : Rd w A n (iv l)) :
    Calls Tryd.prog 41 #[.slice A n c, .int .i64 dims] w fun e w' => e = .returned (.bool (steepB l dims)) ∧ w = w' := by
  have HL := Lib.hid (show l.length = n by have := hr.len; simpa using this)
  have HV := Lib.hid (show steepB l dims = true ↔ ((∀ x ∈ l, slope x) ∧ someB l = true ∧ (l.length : Int) = dims) by unfold steepB; exact decide_eq_true_iff)
  generalize steepB l dims = V at *
  go_enter Tryd.func41, Tryd.ntmps41
  go_wp2_with fail
  go_loop [5, 6] (fun s j => ∃ (k : Nat) (b : Bool), k ≤ n ∧ j = .int .i64 k ∧ s = .bool b ∧ Hid (b = someB (l.take k)) ∧ Hid (∀ x ∈ l.take k, slope x)) (fun _ j => n - (intOf j).toNat)
  case atStart => exact ⟨0, false, Nat.zero_le _, rfl, rfl, Lib.hid (by simp [someB]), Lib.hid (by simp)⟩
  case round =>
    obtain ⟨k, b, hk, rfl, rfl, hs, hpre⟩ := hrel
    by_cases hlt : k < n
    · obtain ⟨ad, rfl, hc⟩ := hr.int hlt HL.out
      have HT := Lib.hid (List.take_succ_eq_append_getElem (show k < l.length by have := HL.out; omega))
      have HM := Lib.hid (List.getElem_mem (show k < l.length by have := HL.out; omega))
      generalize l[k]'(by have := HL.out; omega) = x at *
      have HF : Hid (¬ slope x → V = false) := Lib.hid (by
        intro h
        rw [Bool.eq_false_iff]
        intro hv
        exact h ((HV.out.1 hv).1 _ HM.out))
      have HN : Hid (slope x → ∀ y ∈ l.take (k + 1), slope y) := Lib.hid (by
        intro h
        rw [HT.out]
        intro y hy
        rcases List.mem_append.1 hy with hy | hy
        · exact hpre.out y hy
        · simp at hy; subst hy; exact h)
      have HS : Hid (someB (l.take (k + 1)) = (b || x != 0)) := Lib.hid (by rw [HT.out, hs.out]; simp [someB])
      by_cases h1 : x < -16
      · obtain rfl := HF.out (by unfold slope; omega)
        clear HV HF HN HS
        go_wp2
        go_ret
        exact ⟨rfl, rfl⟩
      · by_cases h2 : 16 < x
        · obtain rfl := HF.out (by unfold slope; omega)
          clear HV HF HN HS
          go_wp2
          go_ret
          exact ⟨rfl, rfl⟩
        · cases b
          · by_cases h3 : x = 0
            · have d3 : (x != 0) = false := by simp [h3]
              rw [d3] at HS
              clear h3
              go_wp2_with fail
              exact ⟨⟨k + 1, false, by omega, by go_num, rfl, Lib.hid HS.out.symm, Lib.hid (HN.out (by unfold slope; omega))⟩, by simp [intOf]; omega⟩
            · have d3 : (x != 0) = true := by simp [h3]
              rw [d3] at HS
              clear h3
              go_wp2_with fail
              exact ⟨⟨k + 1, true, by omega, by go_num, rfl, Lib.hid HS.out.symm, Lib.hid (HN.out (by unfold slope; omega))⟩, by simp [intOf]; omega⟩
          · simp only [Bool.true_or] at HS
            go_wp2_with fail
            exact ⟨⟨k + 1, true, by omega, by go_num, rfl, Lib.hid HS.out.symm, Lib.hid (HN.out (by unfold slope; omega))⟩, by simp [intOf]; omega⟩
    · obtain rfl : k = n := by omega
      have hall := hpre.out
      have hs2 := hs.out
      rw [List.take_of_length_le (by have := HL.out; omega)] at hall hs2
      clear hpre hs
      cases b
      · obtain rfl : V = false := by
          rw [Bool.eq_false_iff]; intro hv; have := (HV.out.1 hv).2.1; rw [← hs2] at this; cases this
        clear HV hall hs2
        go_wp2
        go_ret
        exact ⟨rfl, rfl⟩
      · by_cases c1 : (k : Int) = dims
        · obtain rfl : V = true := HV.out.2 ⟨hall, hs2.symm, by rw [HL.out]; exact c1⟩
          clear HV hall hs2
          have d1 : ((k : Int) == dims) = true := by simp [c1]
          go_wp2
          go_ret
          exact ⟨rfl, rfl⟩
        · obtain rfl : V = false := by
            rw [Bool.eq_false_iff]; intro hv; have := (HV.out.1 hv).2.2; rw [HL.out] at this; exact c1 this
          clear HV hall hs2
          have d1 : ((k : Int) == dims) = false := by simp [c1]
          go_wp2
          go_ret
          exact ⟨rfl, rfl⟩
end Go.Proofs.YtcehaojohfbfkaaDoor
