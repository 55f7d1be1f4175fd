/-
  What Valid says of lines, in the program and in the reference. Conditions: none.
-/
import Derived.Test.YtcehaojohfbfkaaDoorAll
namespace Go.Proofs.YtcehaojohfbfkaaDoor
set_option linter.unusedSimpArgs false
set_option linter.unusedVariables false
open Go.RowKit Proj
def linesB (ls : List (List Int)) (dims : Int) : Bool := decide (1 ≤ dims ∧ dims ≤ 32 ∧ 1 ≤ ls.length ∧ ls.length ≤ 8 ∧ ∀ l ∈ ls, steepB l dims = true)
set_option maxRecDepth 20000 in
set_option maxHeartbeats 4000000 in
theorem refLinesValid_any (A : Option Addr) (n c : Nat) (ls : List (List Int)) (dims : Int) (w : World) (ha : RdR w A n ls) (hn : n ≤ 9223372036854775807) :
    Calls Tryd.prog 12 #[.slice A n c, .int .i64 dims] w fun e w' => e = .returned (.bool (linesB ls dims)) ∧ w = w' := by
  have HLa := Lib.hid ha.len
  have HV := Lib.hid (show linesB ls dims = true ↔ (1 ≤ dims ∧ dims ≤ 32 ∧ 1 ≤ ls.length ∧ ls.length ≤ 8 ∧ ∀ l ∈ ls, steepB l dims = true) by unfold linesB; exact decide_eq_true_iff)
  generalize linesB ls dims = V at *
  have HF : Hid (¬ (1 ≤ dims ∧ dims ≤ 32 ∧ 1 ≤ n ∧ n ≤ 8) → V = false) := Lib.hid (by
    intro h
    rw [Bool.eq_false_iff]
    intro hv
    have := HV.out.1 hv
    rw [HLa.out] at this
    exact h ⟨this.1, this.2.1, this.2.2.1, this.2.2.2.1⟩)
  by_cases c1 : dims < 1
  · obtain rfl := HF.out (by omega)
    clear HV HF
    go_enter Tryd.func12, Tryd.ntmps12
    go_wp2
    go_ret
    exact ⟨rfl, rfl⟩
  by_cases c2 : 32 < dims
  · obtain rfl := HF.out (by omega)
    clear HV HF
    go_enter Tryd.func12, Tryd.ntmps12
    go_wp2
    go_ret
    exact ⟨rfl, rfl⟩
  by_cases c3 : (n : Int) < 1
  · obtain rfl := HF.out (by omega)
    clear HV HF
    go_enter Tryd.func12, Tryd.ntmps12
    go_wp2
    go_ret
    exact ⟨rfl, rfl⟩
  by_cases c4 : 8 < (n : Int)
  · obtain rfl := HF.out (by omega)
    clear HV HF
    go_enter Tryd.func12, Tryd.ntmps12
    go_wp2
    go_ret
    exact ⟨rfl, rfl⟩
  go_enter Tryd.func12, Tryd.ntmps12
  go_wp2_with fail
  go_loop [5, 6] (fun j _ => ∃ (k : Nat), k ≤ n ∧ j = .int .i64 k ∧ Hid (∀ l ∈ ls.take k, steepB l dims = true)) (fun j _ => n - (intOf j).toNat)
  case atStart => exact ⟨0, Nat.zero_le _, rfl, Lib.hid (by simp)⟩
  case round =>
    obtain ⟨k, hk, rfl, hpre⟩ := hrel
    by_cases hlt : k < n
    · obtain ⟨ad, L, c', rfl, hc, hlc, hcm, hrl⟩ := ha.row k (by have := HLa.out; omega)
      have HT := Lib.hid (List.take_succ_eq_append_getElem (show k < ls.length by have := HLa.out; omega))
      have HM := Lib.hid (List.getElem_mem (show k < ls.length by have := HLa.out; omega))
      generalize ls[k]'(by have := HLa.out; omega) = l at *
      simp only [maxLen] at hcm
      go_wp2_with fail
      refine (steep_any L l.length c' l dims _ (by omega) hrl).mono ?_
      rintro e w1 ⟨rfl, rfl⟩
      by_cases hg : steepB l dims = true
      · have HN : Hid (∀ x ∈ ls.take (k + 1), steepB x dims = true) := Lib.hid (by
          rw [HT.out]
          intro x hx
          rcases List.mem_append.1 hx with hx | hx
          · exact hpre.out x hx
          · simp at hx; subst hx; exact hg)
        rw [hg]
        clear hg
        go_wp2_with fail
        exact ⟨⟨k + 1, by omega, by go_num, HN⟩, by simp [intOf]; omega⟩
      · obtain rfl : V = false := by
          rw [Bool.eq_false_iff]; intro hv; exact hg ((HV.out.1 hv).2.2.2.2 l HM.out)
        have hg2 : steepB l dims = false := by simpa using hg
        rw [hg2]
        clear hg hg2 HV HF
        go_wp2_with fail
        go_ret
        exact ⟨rfl, rfl⟩
    · obtain rfl : k = n := by omega
      have hall := hpre.out
      rw [List.take_of_length_le (by have := HLa.out; omega)] at hall
      obtain rfl : V = true := HV.out.2 ⟨by omega, by omega, by rw [HLa.out]; omega, by rw [HLa.out]; omega, hall⟩
      clear HV HF hall
      go_wp2
      go_ret
      exact ⟨rfl, rfl⟩
/-- The two predicates of project.Valid. -/
theorem wide_at (x : Int) (w : World) : Calls Tryd.prog 39 #[.int .i64 x] w fun e w' => e = .returned (.bool (!decide (slope x))) ∧ w = w' := by
  by_cases h1 : x < -16
  · have hs : (!decide (slope x)) = true := by rw [Bool.not_eq_true']; exact decide_eq_false (by unfold slope; omega)
    rw [hs]
    go_enter Tryd.func39, Tryd.ntmps39
    go_wp2
    go_ret
    exact ⟨by simp [h1], rfl⟩
  · by_cases h2 : 16 < x
    · have hs : (!decide (slope x)) = true := by rw [Bool.not_eq_true']; exact decide_eq_false (by unfold slope; omega)
      rw [hs]
      go_enter Tryd.func39, Tryd.ntmps39
      go_wp2
      go_ret
      exact ⟨by simp [h2], rfl⟩
    · have hs : (!decide (slope x)) = false := by rw [Bool.not_eq_false']; exact decide_eq_true (show slope x from ⟨by omega, by omega⟩)
      rw [hs]
      go_enter Tryd.func39, Tryd.ntmps39
      go_wp2
      go_ret
      exact ⟨by simp [h2], rfl⟩
theorem notZero_at (x : Int) (w : World) : Calls Tryd.prog 40 #[.int .i64 x] w fun e w' => e = .returned (.bool (x != 0)) ∧ w = w' := by
  go_enter Tryd.func40, Tryd.ntmps40
  go_wp2
  go_ret
  exact ⟨rfl, rfl⟩
theorem enters_fn {P : Program} {f : FuncId} {fn : Func} {c : Code} (hf : P.funcs[f]? = some fn) (hname : (fn.name == "runtime.NumGoroutine") = false) (hb : fn.body = some c) : ∀ args w, (callFunc f args).run P w = .ok (.enter f args) w := by
  intro args w
  have h1 : fn.name ≠ "runtime.NumGoroutine" := by simpa using hname
  simp [callFunc, hf, h1, hb, mark]
set_option maxRecDepth 20000 in
set_option maxHeartbeats 4000000 in
theorem indexInts_any (g : FuncId) (eg : ∀ args w, (callFunc g args).run Tryd.prog w = .ok (.enter g args) w) (p : Int → Bool) (hg : ∀ (x : Int) (w : World), Calls Tryd.prog g #[.int .i64 x] w fun e w' => e = .returned (.bool (p x)) ∧ w = w') (A : Option Addr) (n c : Nat) (l : List Int) (w : World) (hr : Rd w A n (iv l)) (hn : n ≤ 9223372036854775807) :
    Calls Tryd.prog 58 #[.slice A n c, .func (.func g) #[] #[]] w fun e w' => ∃ z : Int, e = .returned (.int .i64 z) ∧ (0 ≤ z ↔ l.any p = true) ∧ w = w' := by
  have HL := Lib.hid (show l.length = n by have := hr.len; simpa using this)
  have HG := Lib.hid hg
  clear hg
  go_enter Tryd.func58, Tryd.ntmps58
  go_wp2_with fail
  go_loop [5, 8] (fun _ j => ∃ (k : Nat), k ≤ n ∧ j = .int .i64 k ∧ Hid ((l.take k).any p = false)) (fun _ j => n - (intOf j).toNat)
  case atStart => exact ⟨0, Nat.zero_le _, rfl, Lib.hid (by simp)⟩
  case round =>
    obtain ⟨k, hk, rfl, hpre⟩ := hrel
    by_cases hlt : k < n
    · obtain ⟨ad, rfl, hc⟩ := hr.int hlt HL.out
      have HT := Lib.hid (List.take_succ_eq_append_getElem (show k < l.length by have := HL.out; omega))
      have HM := Lib.hid (List.getElem_mem (show k < l.length by have := HL.out; omega))
      generalize l[k]'(by have := HL.out; omega) = x at *
      go_wp2_with fail
      refine (HG.out x _).mono ?_
      rintro e w1 ⟨rfl, rfl⟩
      by_cases hp : p x = true
      · rw [hp]
        have HE : Hid (l.any p = true) := Lib.hid (List.any_eq_true.2 ⟨x, HM.out, hp⟩)
        clear hp
        go_wp2_with fail
        go_ret
        exact ⟨k, rfl, by simp [HE.out], rfl⟩
      · have hp2 : p x = false := by simpa using hp
        rw [hp2]
        have HN : Hid ((l.take (k + 1)).any p = false) := Lib.hid (by rw [HT.out, List.any_append, hpre.out]; simp [hp2])
        clear hp hp2
        go_wp2_with fail
        exact ⟨⟨k + 1, by omega, by go_num, HN⟩, by simp [intOf]; omega⟩
    · obtain rfl : k = n := by omega
      have hall := hpre.out
      rw [List.take_of_length_le (by have := HL.out; omega)] at hall
      have HA := Lib.hid hall
      clear hall
      go_wp2
      go_ret
      exact ⟨-1, rfl, by have := HA.out; simp at this ⊢; exact this, rfl⟩
set_option maxRecDepth 20000 in
theorem containsInts_any (g : FuncId) (eg : ∀ args w, (callFunc g args).run Tryd.prog w = .ok (.enter g args) w) (p : Int → Bool) (hg : ∀ (x : Int) (w : World), Calls Tryd.prog g #[.int .i64 x] w fun e w' => e = .returned (.bool (p x)) ∧ w = w') (A : Option Addr) (n c : Nat) (l : List Int) (w : World) (hr : Rd w A n (iv l)) (hn : n ≤ 9223372036854775807) :
    Calls Tryd.prog 38 #[.slice A n c, .func (.func g) #[] #[]] w fun e w' => e = .returned (.bool (l.any p)) ∧ w = w' := by
  go_enter Tryd.func38, Tryd.ntmps38
  go_wp2_with fail
  refine (indexInts_any g eg p hg A n c l _ hr hn).mono ?_
  rintro e w1 ⟨z, rfl, hz, rfl⟩
  have HZ : Hid (decide (0 ≤ z) = l.any p) := Lib.hid (by rw [Bool.eq_iff_iff, decide_eq_true_iff]; exact hz)
  clear hz
  go_wp2_with fail
  go_ret
  refine ⟨?_, rfl⟩
  rw [← HZ.out]
  rfl
set_option maxRecDepth 20000 in
set_option maxHeartbeats 4000000 in
theorem oneLine_at (A : Option Addr) (n c : Nat) (l : List Int) (dims : Int) (ad : Addr) (w : World) (hr : Rd w A n (iv l)) (hn : n ≤ 9223372036854775807) (hd : w.cell? ad = some (.int .i64 dims)) :
    Calls Tryd.prog 37 #[.slice A n c, .pointer (some ad)] w fun e w' => e = .returned (.bool (!steepB l dims)) ∧ w = w' := by
  have HL := Lib.hid (show l.length = n by have := hr.len; simpa using this)
  have H1 := Lib.hid (containsInts_any 39 (enters_fn Tryd.func39 (by kernel_rfl) rfl) (fun x => !decide (slope x)) wide_at A n c l w hr hn)
  have H2 := Lib.hid (containsInts_any 40 (enters_fn Tryd.func40 (by kernel_rfl) rfl) (fun x => x != 0) notZero_at A n c l w hr hn)
  have HV : Hid (steepB l dims = (!(l.any (fun x => !decide (slope x))) && l.any (fun x => x != 0) && decide ((n : Int) = dims))) := Lib.hid (by
    rw [Bool.eq_iff_iff]
    unfold steepB
    rw [decide_eq_true_iff, HL.out]
    simp [someB, and_assoc])
  generalize l.any (fun x => !decide (slope x)) = X at *
  generalize l.any (fun x => x != 0) = Y at *
  rw [HV.out]
  clear HV hr
  by_cases hnd : (n : Int) = dims
  · have d1 : ((n : Int) != dims) = false := by simp [hnd]
    rw [decide_eq_true hnd]
    cases X
    · cases Y
      · go_enter Tryd.func37, Tryd.ntmps37
        go_wp2_with fail
        refine H1.out.mono ?_
        rintro e w1 ⟨rfl, rfl⟩
        go_wp2_with fail
        refine H2.out.mono ?_
        rintro e w1 ⟨rfl, rfl⟩
        go_wp2_with fail
        go_ret
        exact ⟨rfl, rfl⟩
      · go_enter Tryd.func37, Tryd.ntmps37
        go_wp2_with fail
        refine H1.out.mono ?_
        rintro e w1 ⟨rfl, rfl⟩
        go_wp2_with fail
        refine H2.out.mono ?_
        rintro e w1 ⟨rfl, rfl⟩
        go_wp2_with fail
        go_ret
        exact ⟨rfl, rfl⟩
    · go_enter Tryd.func37, Tryd.ntmps37
      go_wp2_with fail
      refine H1.out.mono ?_
      rintro e w1 ⟨rfl, rfl⟩
      go_wp2_with fail
      go_ret
      exact ⟨rfl, rfl⟩
  · have d1 : ((n : Int) != dims) = true := by simp [hnd]
    rw [decide_eq_false hnd]
    go_enter Tryd.func37, Tryd.ntmps37
    go_wp2_with fail
    refine H1.out.mono ?_
    rintro e w1 ⟨rfl, rfl⟩
    go_wp2_with fail
    go_ret
    exact ⟨by simp, rfl⟩
set_option maxRecDepth 20000 in
set_option maxHeartbeats 4000000 in
theorem indexRows_any (g : FuncId) (eg : ∀ args w, (callFunc g args).run Tryd.prog w = .ok (.enter g args) w) (u : Value) (p : List Int → Bool) (A : Option Addr) (n c : Nat) (ls : List (List Int)) (w : World)
    (hg : ∀ (B : Option Addr) (c : Nat) (l : List Int), Rd w B l.length (iv l) → l.length ≤ 9223372036854775807 → Calls Tryd.prog g #[.slice B l.length c, u] w fun e w' => e = .returned (.bool (p l)) ∧ w = w')
    (ha : RdR w A n ls) (hn : n ≤ 9223372036854775807) :
    Calls Tryd.prog 57 #[.slice A n c, .func (.func g) #[] #[u]] w fun e w' => ∃ z : Int, e = .returned (.int .i64 z) ∧ (0 ≤ z ↔ ls.any p = true) ∧ w = w' := by
  have HL := Lib.hid ha.len
  have HG := Lib.hid hg
  clear hg
  go_enter Tryd.func57, Tryd.ntmps57
  go_wp2_with fail
  go_loop [5, 8] (fun _ j => ∃ (k : Nat), k ≤ n ∧ j = .int .i64 k ∧ Hid ((ls.take k).any p = false)) (fun _ j => n - (intOf j).toNat)
  case atStart => exact ⟨0, Nat.zero_le _, rfl, Lib.hid (by simp)⟩
  case round =>
    obtain ⟨k, hk, rfl, hpre⟩ := hrel
    by_cases hlt : k < n
    · obtain ⟨ad, L, c', rfl, hc, hlc, hcm, hrl⟩ := ha.row k (by have := HL.out; omega)
      have HT := Lib.hid (List.take_succ_eq_append_getElem (show k < ls.length by have := HL.out; omega))
      have HM := Lib.hid (List.getElem_mem (show k < ls.length by have := HL.out; omega))
      generalize ls[k]'(by have := HL.out; omega) = l at *
      simp only [maxLen] at hcm
      go_wp2_with fail
      refine (HG.out L c' l hrl (by omega)).mono ?_
      rintro e w1 ⟨rfl, rfl⟩
      by_cases hp : p l = true
      · rw [hp]
        have HE : Hid (ls.any p = true) := Lib.hid (List.any_eq_true.2 ⟨l, HM.out, hp⟩)
        clear hp
        go_wp2_with fail
        go_ret
        exact ⟨k, rfl, by simp [HE.out], rfl⟩
      · have hp2 : p l = false := by simpa using hp
        rw [hp2]
        have HN : Hid ((ls.take (k + 1)).any p = false) := Lib.hid (by rw [HT.out, List.any_append, hpre.out]; simp [hp2])
        clear hp hp2
        go_wp2_with fail
        exact ⟨⟨k + 1, by omega, by go_num, HN⟩, by simp [intOf]; omega⟩
    · obtain rfl : k = n := by omega
      have hall := hpre.out
      rw [List.take_of_length_le (by have := HL.out; omega)] at hall
      have HA := Lib.hid hall
      clear hall
      go_wp2
      go_ret
      exact ⟨-1, rfl, by have := HA.out; simp at this ⊢; exact this, rfl⟩
set_option maxRecDepth 20000 in
theorem containsRows_any (g : FuncId) (eg : ∀ args w, (callFunc g args).run Tryd.prog w = .ok (.enter g args) w) (u : Value) (p : List Int → Bool) (A : Option Addr) (n c : Nat) (ls : List (List Int)) (w : World)
    (hg : ∀ (B : Option Addr) (c : Nat) (l : List Int), Rd w B l.length (iv l) → l.length ≤ 9223372036854775807 → Calls Tryd.prog g #[.slice B l.length c, u] w fun e w' => e = .returned (.bool (p l)) ∧ w = w')
    (ha : RdR w A n ls) (hn : n ≤ 9223372036854775807) :
    Calls Tryd.prog 36 #[.slice A n c, .func (.func g) #[] #[u]] w fun e w' => e = .returned (.bool (ls.any p)) ∧ w = w' := by
  go_enter Tryd.func36, Tryd.ntmps36
  go_wp2_with fail
  refine (indexRows_any g eg u p A n c ls _ hg ha hn).mono ?_
  rintro e w1 ⟨z, rfl, hz, rfl⟩
  have HZ : Hid (decide (0 ≤ z) = ls.any p) := Lib.hid (by rw [Bool.eq_iff_iff, decide_eq_true_iff]; exact hz)
  clear hz
  go_wp2_with fail
  go_ret
  refine ⟨?_, rfl⟩
  rw [← HZ.out]
  rfl
set_option maxRecDepth 20000 in
set_option maxHeartbeats 4000000 in
theorem linesValid_any (A : Option Addr) (n c : Nat) (ls : List (List Int)) (dims : Int) (w : World) (ha : RdR w A n ls) (hn : n ≤ 9223372036854775807) :
    Calls Tryd.prog 11 #[.slice A n c, .int .i64 dims] w fun e w' => e = .returned (.bool (linesB ls dims)) ∧ Below w.heap.size w w' := by
  have HLa := Lib.hid ha.len
  have HV := Lib.hid (show linesB ls dims = true ↔ (1 ≤ dims ∧ dims ≤ 32 ∧ 1 ≤ ls.length ∧ ls.length ≤ 8 ∧ ∀ l ∈ ls, steepB l dims = true) by unfold linesB; exact decide_eq_true_iff)
  generalize linesB ls dims = V at *
  have HF : Hid (¬ (1 ≤ dims ∧ dims ≤ 32 ∧ 1 ≤ n ∧ n ≤ 8) → V = false) := Lib.hid (by
    intro h
    rw [Bool.eq_false_iff]
    intro hv
    have := HV.out.1 hv
    rw [HLa.out] at this
    exact h ⟨this.1, this.2.1, this.2.2.1, this.2.2.2.1⟩)
  have hb0 : Below w.heap.size w (w.alloc (.cells #[.int .i64 dims] 3)) := (Below.refl _ _).alloc (Nat.le_refl _) _
  have hbc : (w.alloc (.cells #[.int .i64 dims] 3)).cell? ⟨w.heap.size, 0, none⟩ = some (.int .i64 dims) := by rw [(Blk.new w 3 #[.int .i64 dims]).cell]; rfl
  by_cases c1 : dims < 1
  · obtain rfl := HF.out (by omega)
    clear HV HF
    go_enter Tryd.func11, Tryd.ntmps11
    go_wp2
    go_ret
    exact ⟨rfl, hb0⟩
  by_cases c2 : 32 < dims
  · obtain rfl := HF.out (by omega)
    clear HV HF
    go_enter Tryd.func11, Tryd.ntmps11
    go_wp2
    go_ret
    exact ⟨rfl, hb0⟩
  by_cases c3 : (n : Int) < 1
  · obtain rfl := HF.out (by omega)
    clear HV HF
    go_enter Tryd.func11, Tryd.ntmps11
    go_wp2
    go_ret
    exact ⟨rfl, hb0⟩
  by_cases c4 : 8 < (n : Int)
  · obtain rfl := HF.out (by omega)
    clear HV HF
    go_enter Tryd.func11, Tryd.ntmps11
    go_wp2
    go_ret
    exact ⟨rfl, hb0⟩
  have hmf : ∀ (fn : Fn) (first cap : Array Value) (w : World), (Instr.makeFunc fn first cap).run Tryd.prog w = .ok (.func fn first cap) w := fun _ _ _ _ => rfl
  have HW : Hid (V = !(ls.any fun l => !steepB l dims)) := Lib.hid (by
    rw [Bool.eq_iff_iff, HV.out, HLa.out]
    constructor
    · intro h
      have h2 := h.2.2.2.2
      simpa using h2
    · intro h
      exact ⟨by omega, by omega, by omega, by omega, by simpa using h⟩)
  have HC := Lib.hid (containsRows_any 37 (enters_fn Tryd.func37 (by kernel_rfl) rfl) (.pointer (some ⟨w.heap.size, 0, none⟩)) (fun l => !steepB l dims) A n c ls (w.alloc (.cells #[.int .i64 dims] 3))
    (fun B c l hr hl => oneLine_at B l.length c l dims _ _ hr hl hbc) (ha.below hb0) hn)
  generalize (ls.any fun l => !steepB l dims) = X at *
  clear HV HF ha
  go_enter Tryd.func11, Tryd.ntmps11
  go_wp2_with fail
  refine HC.out.mono ?_
  rintro e w1 ⟨rfl, rfl⟩
  go_wp2_with fail
  go_ret
  refine ⟨?_, hb0⟩
  rw [HW.out]
  rfl
end Go.Proofs.YtcehaojohfbfkaaDoor
