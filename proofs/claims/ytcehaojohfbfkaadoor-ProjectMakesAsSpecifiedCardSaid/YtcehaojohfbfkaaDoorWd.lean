/-
  What Widest is, in the program and in the reference. Conditions: the numbers are small.
-/
import Derived.Test.YtcehaojohfbfkaaDoorHs
namespace Go.Proofs.YtcehaojohfbfkaaDoor
set_option linter.unusedSimpArgs false
set_option linter.unusedVariables false
open Go.RowKit Proj
def widthAt (rs : List (Int × Int)) (i : Nat) : Int := (rs.getD i (0, 0)).2 - (rs.getD i (0, 0)).1
def wb (rs : List (Int × Int)) : Nat → Nat
  | 0 => 0
  | k + 1 => if widthAt rs (wb rs k) < widthAt rs k then k else wb rs k
theorem wb_lt (rs : List (Int × Int)) (n : Nat) (h0 : 0 < n) : ∀ k, k ≤ n → wb rs k < n
  | 0, _ => h0
  | k + 1, h => by
    have := wb_lt rs n h0 k (by omega)
    unfold wb
    split <;> omega
theorem wb_one (rs : List (Int × Int)) : wb rs 1 = 0 := by simp [wb]
theorem widthAt_get (rs : List (Int × Int)) (i : Nat) (h : i < rs.length) : widthAt rs i = rs[i].2 - rs[i].1 := by simp [widthAt, List.getD, h]
set_option maxRecDepth 20000 in
set_option maxHeartbeats 4000000 in
theorem widest_any (R : Option Addr) (n c : Nat) (rs : List (Int × Int)) (w : World) (hr : RdP w R n rs) (hn : n ≤ 1000) (hR : PairsOk rs) :
    Calls Tryd.prog 27 #[.slice R n c] w fun e w' => e = .returned (.int .i64 (wb rs n : Nat)) ∧ Below w.heap.size w w' := by
  have HLr := Lib.hid hr.len
  have HR := Lib.hid hR
  clear hR
  go_enter Tryd.func27, Tryd.ntmps27
  go_wp2_with fail
  go_loopw [3, 4, 5, 8] (fun b _ _ j wr => ∃ k q : Nat, k ≤ n ∧ j = .int .i64 k ∧ b = .int .i64 q ∧ Hid (q = wb rs k) ∧ Below w.heap.size w wr) (fun _ _ _ j _ => n - (intOf j).toNat)
  case atStart => exact ⟨0, 0, Nat.zero_le _, rfl, rfl, Lib.hid rfl, Below.refl _ _⟩
  case round =>
    obtain ⟨k, q, hk, rfl, rfl, hq, hbw⟩ := hrel
    by_cases hlt : k < n
    · have HQ := Lib.hid (show q < n by rw [hq.out]; exact wb_lt rs n (by omega) k hk)
      have hqn : q < n := HQ.out
      obtain ⟨rd, rfl, h0, h1⟩ := (hr.below hbw).get k (by have := HLr.out; omega)
      obtain ⟨rd', he, q0, q1⟩ := (hr.below hbw).get q (by have := HLr.out; omega)
      injection he with he
      subst he
      have HX := HR.out _ (List.getElem_mem (show k < rs.length by have := HLr.out; omega))
      have HY := HR.out _ (List.getElem_mem (show q < rs.length by have := HLr.out; omega))
      have HS : Hid (wb rs (k + 1) = if (rs[q]'(by have := HLr.out; omega)).2 - (rs[q]'(by have := HLr.out; omega)).1 < (rs[k]'(by have := HLr.out; omega)).2 - (rs[k]'(by have := HLr.out; omega)).1 then k else q) := Lib.hid (by
        have hq' := hq.out
        subst hq'
        rw [show wb rs (k + 1) = if widthAt rs (wb rs k) < widthAt rs k then k else wb rs k from rfl, widthAt_get rs k (by have := HLr.out; omega), widthAt_get rs (wb rs k) (by have := HLr.out; omega)])
      generalize (rs[k]'(by have := HLr.out; omega)) = x at *
      generalize (rs[q]'(by have := HLr.out; omega)) = y at *
      obtain ⟨xlo, xhi⟩ := x
      obtain ⟨ylo, yhi⟩ := y
      dsimp only at *
      obtain ⟨x1, x2, x3, x4⟩ := HX
      obtain ⟨y1, y2, y3, y4⟩ := HY
      go_wp2_with (first
        | (refine wpList_loadPair rfl rfl rfl (by kernel_rfl) (by kernel_rfl) h0 h1 ?_)
        | (refine wpList_allocP rfl rfl ?_; intro w2 g2 hg2 hbk hb2 hg3; have Hg2 := Lib.hid hg2; clear hg2)
        | (refine wpList_storeP rfl rfl rfl rfl hbk rfl rfl rfl ?_; intro w3 hbk3 hb3))
      have hB3 : Below wr.heap.size wr w3 := hb2.trans (hb3.mono (by rw [Hg2.out]; exact Nat.le_refl _))
      replace q0 := cell_below hB3 q0
      replace q1 := cell_below hB3 q1
      have hk0 := hbk3.cell 0
      have hk1 := hbk3.cell 1
      simp only [List.getElem?_toArray, List.getElem?_cons_zero, List.getElem?_cons_succ] at hk0 hk1
      replace hbw := hbw.trans (hB3.mono hbw.size)
      clear hb2 hb3 hbk hbk3 h0 h1 hg3 Hg2 hB3
      have hw1 : IntKind.i64.wrap (xhi - xlo) = xhi - xlo := by rw [IntKind.wrap_i64]; omega
      have hw2 : IntKind.i64.wrap (yhi - ylo) = yhi - ylo := by rw [IntKind.wrap_i64]; omega
      by_cases c1 : yhi - ylo < xhi - xlo
      · have d1 : decide (yhi - ylo < xhi - xlo) = true := decide_eq_true c1
        rw [if_pos c1] at HS
        go_quiet (fail)
        go_wp2_with fail
        exact ⟨⟨k + 1, k, by omega, by go_num, rfl, Lib.hid HS.out.symm, hbw.trans ⟨rfl, rfl, rfl, Nat.le_refl _, fun _ _ => rfl⟩⟩, by simp [intOf]; omega⟩
      · have d1 : decide (yhi - ylo < xhi - xlo) = false := decide_eq_false c1
        rw [if_neg c1] at HS
        go_quiet (fail)
        go_wp2_with fail
        exact ⟨⟨k + 1, q, by omega, by go_num, rfl, Lib.hid HS.out.symm, hbw.trans ⟨rfl, rfl, rfl, Nat.le_refl _, fun _ _ => rfl⟩⟩, by simp [intOf]; omega⟩
    · obtain rfl : k = n := by omega
      go_wp2
      go_ret
      refine ⟨?_, hbw⟩
      rw [← hq.out]
      rfl
set_option maxRecDepth 20000 in
set_option maxHeartbeats 4000000 in
theorem refWidest_any (R : Option Addr) (n c : Nat) (rs : List (Int × Int)) (w : World) (hr : RdP w R n rs) (h0n : 0 < n) (hn : n ≤ 1000) (hR : PairsOk rs) :
    Calls Tryd.prog 28 #[.slice R n c] w fun e w' => e = .returned (.int .i64 (wb rs n : Nat)) ∧ Below w.heap.size w w' := by
  have HLr := Lib.hid hr.len
  have HR := Lib.hid hR
  clear hR
  go_enter Tryd.func28, Tryd.ntmps28
  go_wp2_with fail
  go_loopw [3, 4] (fun b j wr => ∃ k q : Nat, 1 ≤ k ∧ k ≤ n ∧ j = .int .i64 k ∧ b = .int .i64 q ∧ Hid (q = wb rs k) ∧ Below w.heap.size w wr) (fun _ j _ => n - (intOf j).toNat)
  case atStart => exact ⟨1, 0, Nat.le_refl _, h0n, rfl, rfl, Lib.hid (wb_one rs).symm, Below.refl _ _⟩
  case round =>
    obtain ⟨k, q, hk1, hk, rfl, rfl, hq, hbw⟩ := hrel
    by_cases hlt : k < n
    · have HQ := Lib.hid (show q < n by rw [hq.out]; exact wb_lt rs n (by omega) k hk)
      have hqn : q < n := HQ.out
      obtain ⟨rd, rfl, h0, h1⟩ := (hr.below hbw).get k (by have := HLr.out; omega)
      obtain ⟨rd', he, q0, q1⟩ := (hr.below hbw).get q (by have := HLr.out; omega)
      injection he with he
      subst he
      have HX := HR.out _ (List.getElem_mem (show k < rs.length by have := HLr.out; omega))
      have HY := HR.out _ (List.getElem_mem (show q < rs.length by have := HLr.out; omega))
      have HS : Hid (wb rs (k + 1) = if (rs[q]'(by have := HLr.out; omega)).2 - (rs[q]'(by have := HLr.out; omega)).1 < (rs[k]'(by have := HLr.out; omega)).2 - (rs[k]'(by have := HLr.out; omega)).1 then k else q) := Lib.hid (by
        have hq' := hq.out
        subst hq'
        rw [show wb rs (k + 1) = if widthAt rs (wb rs k) < widthAt rs k then k else wb rs k from rfl, widthAt_get rs k (by have := HLr.out; omega), widthAt_get rs (wb rs k) (by have := HLr.out; omega)])
      generalize (rs[k]'(by have := HLr.out; omega)) = x at *
      generalize (rs[q]'(by have := HLr.out; omega)) = y at *
      obtain ⟨xlo, xhi⟩ := x
      obtain ⟨ylo, yhi⟩ := y
      dsimp only at *
      obtain ⟨x1, x2, x3, x4⟩ := HX
      obtain ⟨y1, y2, y3, y4⟩ := HY
      go_wp2_with fail
      by_cases c1 : yhi - ylo < xhi - xlo
      · have d1 : decide (yhi - ylo < xhi - xlo) = true := decide_eq_true c1
        rw [if_pos c1] at HS
        clear c1
        go_quiet (fail)
        go_wp2_with fail
        exact ⟨⟨k + 1, k, by omega, by omega, by go_num, rfl, Lib.hid HS.out.symm, hbw.trans ⟨rfl, rfl, rfl, Nat.le_refl _, fun _ _ => rfl⟩⟩, by simp [intOf]; omega⟩
      · have d1 : decide (yhi - ylo < xhi - xlo) = false := decide_eq_false c1
        rw [if_neg c1] at HS
        clear c1
        go_quiet (fail)
        go_wp2_with fail
        exact ⟨⟨k + 1, q, by omega, by omega, by go_num, rfl, Lib.hid HS.out.symm, hbw.trans ⟨rfl, rfl, rfl, Nat.le_refl _, fun _ _ => rfl⟩⟩, by simp [intOf]; omega⟩
    · obtain rfl : k = n := by omega
      go_wp2
      go_ret
      refine ⟨?_, hbw⟩
      rw [← hq.out]
      rfl
end Go.Proofs.YtcehaojohfbfkaaDoor
