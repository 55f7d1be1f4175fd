/-
  What the reference's bounds of lines are. Conditions: the numbers are small.
-/
import Derived.Test.YtcehaojohfbfkaaDoorBnd
namespace Go.Proofs.YtcehaojohfbfkaaDoor
set_option linter.unusedSimpArgs false
set_option linter.unusedVariables false
open Go.RowKit Proj
theorem run_gap {P : Program} (ts : Array TypeId) (t : TypeId) (lo hi n : Int) (w : World) : (Builtin.max_ ts t #[.int .i64 0, .int .i64 (lo - n), .int .i64 (n - hi)]).run P w = .ok (.int .i64 (gap lo hi n)) w := by
  have e : (if n - hi > (if lo - n > 0 then lo - n else 0) then n - hi else (if lo - n > 0 then lo - n else 0)) = gap lo hi n := by unfold gap; omega
  rw [run_max_int3, e]
set_option maxRecDepth 20000 in
set_option maxHeartbeats 2000000 in
theorem refOne1_any (L : Option Addr) (nl cl : Nat) (l : List Int) (lo hi : Int) (B : Option Addr) (m d : Nat) (b : List Int) (w : World) (hl : Rd w L nl (iv l)) (hb : Rd w B m (iv b)) (hnm : nl ≤ m) (hm : m ≤ 64)
    (hA : ∀ x ∈ l, ab x ≤ 1000) (hS : some0 l) (hB : ∀ y ∈ b, ab y ≤ 1000) (hR : -1073741824 ≤ lo ∧ lo ≤ 1073741824 ∧ -1073741824 ≤ hi ∧ hi ≤ 1073741824) :
    Calls Tryd.prog 55 #[.int .i64 1, .slice L nl cl, .agg #[.int .i64 lo, .int .i64 hi], .slice B m d] w fun e w' => e = .returned (.int .i64 (one 1 l lo hi (dot l b))) ∧ Below w.heap.size w w' := by
  have HA := Lib.hid hA
  have HA2 := Lib.hid (show ∀ x ∈ l, ab x ≤ 2000 from fun x hx => Int.le_trans (hA x hx) (by omega))
  have HB := Lib.hid hB
  have HL := Lib.hid (show l.length = nl by have := hl.len; simpa using this)
  have HP := Lib.hid (n3_pos l hS)
  have hd := dot_small l b (by have := HL.out; omega) HA.out HB.out
  obtain ⟨hlo1, hlo2, hhi1, hhi2⟩ := hR
  have HG := Lib.hid (gap_small (n := dot l b) hlo2 hhi1 hd)
  have HO := Lib.hid (show one 1 l lo hi (dot l b) = up (gap lo hi (dot l b)) (n3 l) from rfl)
  generalize hu : one 1 l lo hi (dot l b) = u at *
  clear hu
  have hd2 : -64000000 ≤ dot l b ∧ dot l b ≤ 64000000 := by unfold ab at hd; omega
  obtain ⟨hd3, hd4⟩ := hd2
  clear hd hA hB hS
  go_enter Tryd.func55, Tryd.ntmps55
  go_wp2_with fail
  have hb0 : Below w.heap.size w (w.alloc (.cells #[.int .i64 lo, .int .i64 hi] 45)) := (Below.refl _ _).alloc (Nat.le_refl _) _
  have hbk : Blk (w.alloc (.cells #[.int .i64 lo, .int .i64 hi] 45)) w.heap.size 45 #[.int .i64 lo, .int .i64 hi] := Blk.new _ _ _
  refine (refDot_any L nl cl l B m d b _ (hl.below hb0) (hb.below hb0) hnm (by omega) HA.out HB.out).mono ?_
  rintro e w2 ⟨rfl, hb2⟩
  replace hbk := hbk.below hb2
  replace hb2 := bstep hb0 hb2
  clear hb0
  have hc0 := hbk.cell 0
  have hc1 := hbk.cell 1
  simp only [List.getElem?_toArray, List.getElem?_cons_zero, List.getElem?_cons_succ] at hc0 hc1
  generalize dot l b = x at *
  clear hbk
  obtain ⟨hg1, hg2⟩ := HG.out
  have hg3 : 0 ≤ gap lo hi x * gap lo hi x := sq_nonneg _
  have hg4 : gap lo hi x * gap lo hi x ≤ 4611686018427387904 := by have := sq_le hg1 hg2; omega
  have hmx := fun ts t => run_gap (P := Tryd.prog) ts t lo hi x
  go_wp2_with fail
  refine (refNorm_any 3 L nl cl l _ (hl.below hb2) (by omega) HA2.out).mono ?_
  rintro e w3 ⟨rfl, hb3⟩
  replace hb3 := bstep hb2 hb3
  have h2 := norm_small 3 l (by have := HL.out; omega) HA2.out
  rw [norm3_eq] at h2 ⊢
  have HU := Lib.hid (refUp_any (gap lo hi x) (n3 l) w3 HG.out.1 (by have := HG.out.2; omega) HP.out (by omega))
  rw [← HO.out] at HU
  clear hb2 hc0 hc1
  go_wp2_with fail
  refine HU.out.mono ?_
  rintro e w4 ⟨rfl, rfl⟩
  go_wp2_with fail
  go_ret
  exact ⟨rfl, hb3⟩
set_option maxRecDepth 20000 in
set_option maxHeartbeats 2000000 in
theorem refOne2_any (L : Option Addr) (nl cl : Nat) (l : List Int) (lo hi : Int) (B : Option Addr) (m d : Nat) (b : List Int) (w : World) (hl : Rd w L nl (iv l)) (hb : Rd w B m (iv b)) (hnm : nl ≤ m) (hm : m ≤ 64)
    (hA : ∀ x ∈ l, ab x ≤ 1000) (hS : some0 l) (hB : ∀ y ∈ b, ab y ≤ 1000) (hR : -1073741824 ≤ lo ∧ lo ≤ 1073741824 ∧ -1073741824 ≤ hi ∧ hi ≤ 1073741824) :
    Calls Tryd.prog 55 #[.int .i64 2, .slice L nl cl, .agg #[.int .i64 lo, .int .i64 hi], .slice B m d] w fun e w' => e = .returned (.int .i64 (one 2 l lo hi (dot l b))) ∧ Below w.heap.size w w' := by
  have HA := Lib.hid hA
  have HA2 := Lib.hid (show ∀ x ∈ l, ab x ≤ 2000 from fun x hx => Int.le_trans (hA x hx) (by omega))
  have HB := Lib.hid hB
  have HL := Lib.hid (show l.length = nl by have := hl.len; simpa using this)
  have HP := Lib.hid (n2_pos l hS)
  have hd := dot_small l b (by have := HL.out; omega) HA.out HB.out
  obtain ⟨hlo1, hlo2, hhi1, hhi2⟩ := hR
  have HG := Lib.hid (gap_small (n := dot l b) hlo2 hhi1 hd)
  have HO := Lib.hid (show one 2 l lo hi (dot l b) = up (gap lo hi (dot l b) * gap lo hi (dot l b)) (n2 l) from rfl)
  generalize hu : one 2 l lo hi (dot l b) = u at *
  clear hu
  have hd2 : -64000000 ≤ dot l b ∧ dot l b ≤ 64000000 := by unfold ab at hd; omega
  obtain ⟨hd3, hd4⟩ := hd2
  clear hd hA hB hS
  go_enter Tryd.func55, Tryd.ntmps55
  go_wp2_with fail
  have hb0 : Below w.heap.size w (w.alloc (.cells #[.int .i64 lo, .int .i64 hi] 45)) := (Below.refl _ _).alloc (Nat.le_refl _) _
  have hbk : Blk (w.alloc (.cells #[.int .i64 lo, .int .i64 hi] 45)) w.heap.size 45 #[.int .i64 lo, .int .i64 hi] := Blk.new _ _ _
  refine (refDot_any L nl cl l B m d b _ (hl.below hb0) (hb.below hb0) hnm (by omega) HA.out HB.out).mono ?_
  rintro e w2 ⟨rfl, hb2⟩
  replace hbk := hbk.below hb2
  replace hb2 := bstep hb0 hb2
  clear hb0
  have hc0 := hbk.cell 0
  have hc1 := hbk.cell 1
  simp only [List.getElem?_toArray, List.getElem?_cons_zero, List.getElem?_cons_succ] at hc0 hc1
  generalize dot l b = x at *
  clear hbk
  obtain ⟨hg1, hg2⟩ := HG.out
  have hg3 : 0 ≤ gap lo hi x * gap lo hi x := sq_nonneg _
  have hg4 : gap lo hi x * gap lo hi x ≤ 4611686018427387904 := by have := sq_le hg1 hg2; omega
  have hmx := fun ts t => run_gap (P := Tryd.prog) ts t lo hi x
  go_wp2_with fail
  refine (refNorm_any 2 L nl cl l _ (hl.below hb2) (by omega) HA2.out).mono ?_
  rintro e w3 ⟨rfl, hb3⟩
  replace hb3 := bstep hb2 hb3
  have h2 := norm_small 2 l (by have := HL.out; omega) HA2.out
  rw [norm2_eq] at h2 ⊢
  have HU := Lib.hid (refUp_any (gap lo hi x * gap lo hi x) (n2 l) w3 (sq_nonneg _) (by have := sq_le HG.out.1 HG.out.2; omega) HP.out (by omega))
  rw [← HO.out] at HU
  clear hb2 hc0 hc1
  go_wp2_with fail
  refine HU.out.mono ?_
  rintro e w4 ⟨rfl, rfl⟩
  go_wp2_with fail
  go_ret
  exact ⟨rfl, hb3⟩
set_option maxRecDepth 20000 in
set_option maxHeartbeats 2000000 in
theorem refOne3_any (L : Option Addr) (nl cl : Nat) (l : List Int) (lo hi : Int) (B : Option Addr) (m d : Nat) (b : List Int) (w : World) (hl : Rd w L nl (iv l)) (hb : Rd w B m (iv b)) (hnm : nl ≤ m) (hm : m ≤ 64)
    (hA : ∀ x ∈ l, ab x ≤ 1000) (hS : some0 l) (hB : ∀ y ∈ b, ab y ≤ 1000) (hR : -1073741824 ≤ lo ∧ lo ≤ 1073741824 ∧ -1073741824 ≤ hi ∧ hi ≤ 1073741824) :
    Calls Tryd.prog 55 #[.int .i64 3, .slice L nl cl, .agg #[.int .i64 lo, .int .i64 hi], .slice B m d] w fun e w' => e = .returned (.int .i64 (one 3 l lo hi (dot l b))) ∧ Below w.heap.size w w' := by
  have HA := Lib.hid hA
  have HA2 := Lib.hid (show ∀ x ∈ l, ab x ≤ 2000 from fun x hx => Int.le_trans (hA x hx) (by omega))
  have HB := Lib.hid hB
  have HL := Lib.hid (show l.length = nl by have := hl.len; simpa using this)
  have HP := Lib.hid (n1_pos l hS)
  have hd := dot_small l b (by have := HL.out; omega) HA.out HB.out
  obtain ⟨hlo1, hlo2, hhi1, hhi2⟩ := hR
  have HG := Lib.hid (gap_small (n := dot l b) hlo2 hhi1 hd)
  have HO := Lib.hid (show one 3 l lo hi (dot l b) = up (gap lo hi (dot l b)) (n1 l) from rfl)
  generalize hu : one 3 l lo hi (dot l b) = u at *
  clear hu
  have hd2 : -64000000 ≤ dot l b ∧ dot l b ≤ 64000000 := by unfold ab at hd; omega
  obtain ⟨hd3, hd4⟩ := hd2
  clear hd hA hB hS
  go_enter Tryd.func55, Tryd.ntmps55
  go_wp2_with fail
  have hb0 : Below w.heap.size w (w.alloc (.cells #[.int .i64 lo, .int .i64 hi] 45)) := (Below.refl _ _).alloc (Nat.le_refl _) _
  have hbk : Blk (w.alloc (.cells #[.int .i64 lo, .int .i64 hi] 45)) w.heap.size 45 #[.int .i64 lo, .int .i64 hi] := Blk.new _ _ _
  refine (refDot_any L nl cl l B m d b _ (hl.below hb0) (hb.below hb0) hnm (by omega) HA.out HB.out).mono ?_
  rintro e w2 ⟨rfl, hb2⟩
  replace hbk := hbk.below hb2
  replace hb2 := bstep hb0 hb2
  clear hb0
  have hc0 := hbk.cell 0
  have hc1 := hbk.cell 1
  simp only [List.getElem?_toArray, List.getElem?_cons_zero, List.getElem?_cons_succ] at hc0 hc1
  generalize dot l b = x at *
  clear hbk
  obtain ⟨hg1, hg2⟩ := HG.out
  have hg3 : 0 ≤ gap lo hi x * gap lo hi x := sq_nonneg _
  have hg4 : gap lo hi x * gap lo hi x ≤ 4611686018427387904 := by have := sq_le hg1 hg2; omega
  have hmx := fun ts t => run_gap (P := Tryd.prog) ts t lo hi x
  go_wp2_with fail
  refine (refNorm_any 1 L nl cl l _ (hl.below hb2) (by omega) HA2.out).mono ?_
  rintro e w3 ⟨rfl, hb3⟩
  replace hb3 := bstep hb2 hb3
  have h2 := norm_small 1 l (by have := HL.out; omega) HA2.out
  rw [norm1_eq] at h2 ⊢
  have HU := Lib.hid (refUp_any (gap lo hi x) (n1 l) w3 HG.out.1 (by have := HG.out.2; omega) HP.out (by omega))
  rw [← HO.out] at HU
  clear hb2 hc0 hc1
  go_wp2_with fail
  refine HU.out.mono ?_
  rintro e w4 ⟨rfl, rfl⟩
  go_wp2_with fail
  go_ret
  exact ⟨rfl, hb3⟩
end Go.Proofs.YtcehaojohfbfkaaDoor
