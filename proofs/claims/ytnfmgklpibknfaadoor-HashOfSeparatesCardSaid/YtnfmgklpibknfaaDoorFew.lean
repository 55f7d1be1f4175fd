/-
  What Few and Joined of the reference compute. Conditions: none.
-/
import Derived.Test.YtnfmgklpibknfaaDoorGrd
namespace Go.Proofs.YtnfmgklpibknfaaDoor
set_option linter.unusedSimpArgs false
set_option linter.unusedVariables false
open Go.RowKit Sha Crc
def fewB (l : List ByteArray) : Bool := decide (l.length ≤ 12) && l.all fun s => decide (s.size ≤ 400)
theorem fewB_yes {l : List ByteArray} (h : fewB l = true) : l.length ≤ 12 ∧ ∀ s ∈ l, s.size ≤ 400 := by
  simp only [fewB, Bool.and_eq_true, decide_eq_true_eq, List.all_eq_true] at h
  exact h
def joinL (l : List ByteArray) : List UInt8 := l.flatMap fun s => s.data.toList
theorem joinL_snoc (l : List ByteArray) (s : ByteArray) : joinL (l ++ [s]) = joinL l ++ s.data.toList := by simp [joinL]
theorem joinL_append (a b : List ByteArray) : joinL (a ++ b) = joinL a ++ joinL b := by simp [joinL]
theorem length_joinL (l : List ByteArray) (M : Nat) (h : ∀ s ∈ l, s.size ≤ M) : (joinL l).length ≤ l.length * M := by
  induction l with
  | nil => simp [joinL]
  | cons s l ih =>
    have h1 := h s (by simp)
    have h2 := ih fun x hx => h x (by simp [hx])
    have h3 : s.data.toList.length = s.size := by simp
    simp only [joinL, List.flatMap_cons, List.length_cons, List.length_append] at h2 ⊢
    rw [Nat.add_mul, Nat.one_mul]
    omega
set_option maxHeartbeats 1000000 in
theorem few_any (A : Option Addr) (n c : Nat) (l : List ByteArray) (w : World) (hn : n ≤ 9223372036854775807) (hr : Rd w A n (sv l)) (hsz : ∀ s ∈ l, s.size ≤ 9223372036854775807) :
    Calls Tryd.prog 18 #[.slice A n c] w fun e w' => e = .returned (.bool (fewB l)) ∧ w = w' := by
  have HL := Lib.hid (show l.length = n by have := hr.len; simpa using this)
  by_cases h12 : 12 < n
  · have hf : fewB l = false := by
      simp only [fewB, HL.out]
      rw [decide_eq_false (by omega)]; rfl
    rw [hf]
    clear hf
    go_enter Tryd.func18, Tryd.ntmps18
    go_wp2
    go_ret
    exact ⟨rfl, rfl⟩
  · by_cases hall : ∀ s ∈ l, s.size ≤ 400
    · have hf : fewB l = true := by
        simp only [fewB, HL.out, Bool.and_eq_true, decide_eq_true_eq, List.all_eq_true]
        exact ⟨by omega, hall⟩
      rw [hf]
      clear hf
      go_enter Tryd.func18, Tryd.ntmps18
      go_wp2_with fail
      go_loop [3] (fun i => ∃ k : Nat, k ≤ n ∧ i = .int .i64 k) (fun i => n - (intOf i).toNat)
      case atStart => exact ⟨0, Nat.zero_le _, rfl⟩
      case round =>
        obtain ⟨k, hk, rfl⟩ := hrel
        by_cases hlt : k < n
        · obtain ⟨ad, rfl, hc⟩ := hr.str hlt HL.out
          have hs := hall (l[k]'(by have := HL.out; omega)) (List.getElem_mem _)
          generalize l[k]'(by have := HL.out; omega) = s at *
          have hd : decide ((400 : Int) < (s.size : Int)) = false := by simp; omega
          have Hall := Lib.hid hall
          have Hsz := Lib.hid hsz
          clear hall hsz
          go_wp2_with fail
          exact ⟨⟨k + 1, by omega, by go_num⟩, by simp [intOf]; omega⟩
        · obtain rfl : k = n := by omega
          have Hall := Lib.hid hall
          have Hsz := Lib.hid hsz
          clear hall hsz
          go_wp2
          go_ret
          exact ⟨rfl, rfl⟩
    · have hf : fewB l = false := by
        cases hb : fewB l with
        | false => rfl
        | true => exact absurd (fewB_yes hb).2 hall
      rw [hf]
      clear hf
      have HNA := Lib.hid hall
      clear hall
      go_enter Tryd.func18, Tryd.ntmps18
      go_wp2_with fail
      go_loop [3] (fun i => ∃ k : Nat, k ≤ n ∧ i = .int .i64 k ∧ Hid (∀ s ∈ l.take k, s.size ≤ 400)) (fun i => n - (intOf i).toNat)
      case atStart => exact ⟨0, Nat.zero_le _, rfl, (by intro s hs; simp at hs : ∀ s ∈ l.take 0, s.size ≤ 400)⟩
      case round =>
        obtain ⟨k, hk, rfl, hpre⟩ := hrel
        by_cases hlt : k < n
        · obtain ⟨ad, rfl, hc⟩ := hr.str hlt HL.out
          have hs9 := hsz (l[k]'(by have := HL.out; omega)) (List.getElem_mem _)
          have HT := Lib.hid (List.take_succ_eq_append_getElem (show k < l.length by have := HL.out; omega))
          generalize l[k]'(by have := HL.out; omega) = s at *
          have Hsz := Lib.hid hsz
          clear hsz
          by_cases hs : s.size ≤ 400
          · have hd : decide ((400 : Int) < (s.size : Int)) = false := by simp; omega
            go_wp2_with fail
            refine ⟨⟨k + 1, by omega, by go_num, ?_⟩, by simp [intOf]; omega⟩
            show ∀ x ∈ l.take (k + 1), x.size ≤ 400
            rw [HT.out]
            intro x hx
            rcases List.mem_append.1 hx with hx | hx
            · exact hpre.out x hx
            · simp at hx; rw [hx]; exact hs
          · have hd : decide ((400 : Int) < (s.size : Int)) = true := by simp; omega
            go_wp2
            go_ret
            exact ⟨rfl, rfl⟩
        · exfalso
          refine HNA.out ?_
          have := hpre.out
          rw [List.take_of_length_le (by have := HL.out; omega)] at this
          exact this
set_option maxHeartbeats 1000000 in
theorem joined_any (A : Option Addr) (n c : Nat) (l : List ByteArray) (w : World) (hn : n ≤ 12) (hr : Rd w A n (sv l)) (hsz : ∀ s ∈ l, s.size ≤ 400) :
    Calls Tryd.prog 21 #[.slice A n c] w fun e w' => ∃ s, e = .returned (.string s) ∧ s.data.toList = joinL l ∧ w = w' := by
  have HL := Lib.hid (show l.length = n by have := hr.len; simpa using this)
  have Hsz := Lib.hid hsz
  clear hsz
  go_enter Tryd.func21, Tryd.ntmps21
  go_wp2_with fail
  go_loop [3, 4] (fun v i => ∃ (k : Nat) (s : ByteArray), k ≤ n ∧ i = .int .i64 k ∧ v = .string s ∧ Hid (s.data.toList = joinL (l.take k))) (fun _ i => n - (intOf i).toNat)
  case atStart => exact ⟨0, _, Nat.zero_le _, rfl, rfl, (by simp [joinL] : _ = joinL (l.take 0))⟩
  case round =>
    obtain ⟨k, s, hk, rfl, rfl, hs⟩ := hrel
    by_cases hlt : k < n
    · obtain ⟨ad, rfl, hc⟩ := hr.str hlt HL.out
      have hs9 := Hsz.out (l[k]'(by have := HL.out; omega)) (List.getElem_mem _)
      have HT := Lib.hid (List.take_succ_eq_append_getElem (show k < l.length by have := HL.out; omega))
      generalize l[k]'(by have := HL.out; omega) = x at *
      have hss : s.size ≤ 4800 := by
        have h1 := congrArg List.length hs.out
        have h2 := length_joinL (l.take k) 400 (fun s hs' => Hsz.out s (List.mem_of_mem_take hs'))
        have h3 : s.data.toList.length = s.size := by simp
        have h4 : (l.take k).length ≤ 12 := by rw [List.length_take]; omega
        have h5 : (l.take k).length * 400 ≤ 12 * 400 := Nat.mul_le_mul_right _ h4
        omega
      go_wp2_with fail
      refine ⟨⟨k + 1, s ++ x, by omega, by go_num, rfl, ?_⟩, by simp [intOf]; omega⟩
      show (s ++ x).data.toList = joinL (l.take (k + 1))
      rw [HT.out, joinL_snoc, ← hs.out]
      simp
    · obtain rfl : k = n := by omega
      have hs' := hs.out
      rw [List.take_of_length_le (by have := HL.out; omega)] at hs'
      have HS := Lib.hid hs'
      clear hs hs'
      go_wp2
      go_ret
      exact ⟨s, rfl, HS.out, rfl⟩
end Go.Proofs.YtnfmgklpibknfaaDoor
