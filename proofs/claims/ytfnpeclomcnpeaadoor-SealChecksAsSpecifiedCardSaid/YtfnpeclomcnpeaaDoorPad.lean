/-
  What padded of the reference computes. Conditions: none.
-/
import Derived.Test.YtfnpeclomcnpeaaDoorOf
namespace Go.Proofs.YtfnpeclomcnpeaaDoor
set_option linter.unusedSimpArgs false
set_option linter.unusedVariables false
open Go.RowKit Sha
set_option maxHeartbeats 1000000 in
theorem padded_any (A : Option Addr) (n c : Nat) (l : List UInt8) (w : World) (hn : n ≤ 1073741824) (hr : Rd w A n (bv l)) :
    Calls Tryd.prog 67 #[.slice A n c] w fun e w' => ∃ v, e = .returned v ∧ Own w' w.heap.size 5 v (bv (l ++ pad l.length)) ∧ Below w.heap.size w w' := by
  have HL := Lib.hid (show l.length = n by have := hr.len; simpa using this)
  go_enter Tryd.func67, Tryd.ntmps67
  go_upto_region 1 with (fail)
  refine wp_region_lit ?_
  iterate 6 go_step
  refine wpList_app rfl rfl elemBytes rfl (Own.lit w w.heap.size 5 [] (Nat.le_refl _) (by simp [maxLen])) rfl (hr.below ((Below.refl _ _).alloc (Nat.le_refl _) _)) (oneCell_bv _) (by simp; omega) (by simp) ?_
  intro v1 w1 o1 _ hb1 _
  rw [List.nil_append] at o1
  replace hb1 := ((Below.refl w.heap.size w).alloc (Nat.le_refl _) _).trans hb1
  simp only [Act.put]
  go_upto_region 2 with (fail)
  refine wp_region_lit ?_
  iterate 6 go_step
  refine wpList_app rfl rfl elemBytes rfl (o1.alloc _) rfl (Rd.new1 _ _ _) (one1 rfl) (by rw [length_bv, HL.out]; omega) (by have := hb1.size; simp; omega) ?_
  intro v2 w2 o2 _ hb2 _
  replace hb1 := (hb1.alloc hb1.size _).trans hb2
  clear hb2 o1
  simp only [Act.put]
  go_wp2_with fail
  go_loopw [3] (fun v wr => ∃ i : Nat, i ≤ zeros n ∧ Own wr w.heap.size 5 v (bv (l ++ padZ i)) ∧ Below w.heap.size w wr) (fun v _ => n + 65 - slLen v)
  case atStart => exact ⟨0, Nat.zero_le _, by rw [bv_append]; exact o2, hb1⟩
  case round =>
    clear hb1 o2
    obtain ⟨i, hi, hown, hb⟩ := hrel
    have hz := hb.size
    obtain ⟨A3, n3, c3, rfl, hn3, hnc, hcm, hr3⟩ := hown.formN
    have hn1 : n3 = n + (i + 1) := by rw [hn3.out, length_bv, List.length_append, HL.out, length_padZ]
    have hzl := zeros_lt n
    by_cases hzi : i = zeros n
    · have hne : (((n3 : Nat) : Int) % 64 != 56) = false := by
        have := zeros_done n
        simp; omega
      have hnb : n3 ≤ n + 64 := by omega
      rw [hzi] at hown
      clear hr3 hn3 hnc hcm hi hzi hzl hn1
      go_wp2_with fail
      clear hne
      obtain ⟨wo, rfl⟩ : ∃ wo : World, wo = wr := ⟨_, rfl⟩
      go_loopw [3, 5] (fun v i wr => ∃ j : Nat, j ≤ 8 ∧ i = .int .i64 j ∧ Own wr w.heap.size 5 v (bv (l ++ (padZ (zeros n) ++ lenBytes n j))) ∧ Below w.heap.size w wr) (fun _ i _ => 8 - (intOf i).toNat)
      case atStart => exact ⟨0, Nat.zero_le _, rfl, by rw [show lenBytes n 0 = [] from rfl, List.append_nil]; exact hown, hb⟩
      case round =>
        clear hown hb hnb hz
        obtain ⟨j, hj, rfl, hown, hb⟩ := hrel
        have hz := hb.size
        obtain ⟨A4, n4, c4, rfl, hn4, hnc4, hcm4, hr4⟩ := hown.formN
        by_cases hlt : j < 8
        · have hLB := Lib.hid (lenByte_nat n j)
          go_wp2_with (at_builtin; refine wpList_app rfl rfl elemBytes rfl (hown.alloc _) rfl (Rd.new1 _ _ _) (one1 rfl) (by rw [length_bv, List.length_append, List.length_append, HL.out, length_padZ, length_lenBytes]; have := zeros_lt n; omega) (by simp; omega) ?_; intro v' w' hown' hg' hb' _)
          refine ⟨⟨j + 1, by omega, by go_num, ?_, (hb.alloc hz _).trans hb'⟩, by simp [intOf]; omega⟩
          rw [lenBytes_succ, ← List.append_assoc, ← List.append_assoc, bv_append, show bv [lenByte n j] = [.int .u8 (8 * (n : Int) / 2 ^ (56 - 8 * j) % 256)] by simp [bv, hLB.out], List.append_assoc l]
          exact hown'
        · obtain rfl : j = 8 := by omega
          rw [← pad_eq] at hown
          go_wp2
          go_ret
          rw [HL.out]
          exact ⟨_, rfl, hown, hb⟩
    · have hne : (((n3 : Nat) : Int) % 64 != 56) = true := by
        have := zeros_not n i (by omega)
        simp; omega
      have hnb : n3 ≤ n + 64 := by omega
      have HN := Lib.hid hn1
      clear hn1
      go_wp2_with (at_builtin; refine wpList_app rfl rfl elemBytes rfl (hown.alloc _) rfl (Rd.new1 _ _ _) (one1 rfl) (by rw [length_bv, List.length_append, HL.out, length_padZ]; omega) (by simp; omega) ?_; intro v' w' hown' hg' hb' _)
      have hl := hown'.slLen
      refine ⟨⟨i + 1, by omega, ?_, (hb.alloc hz _).trans hb'⟩, ?_⟩
      · rw [padZ_succ, ← List.append_assoc, bv_append]; exact hown'
      · rw [hl]
        show n + 65 - _ < n + 65 - n3
        simp only [List.length_append, length_bv, length_padZ, List.length_cons, List.length_nil]
        have := HN.out
        have := HL.out
        omega
end Go.Proofs.YtfnpeclomcnpeaaDoor
