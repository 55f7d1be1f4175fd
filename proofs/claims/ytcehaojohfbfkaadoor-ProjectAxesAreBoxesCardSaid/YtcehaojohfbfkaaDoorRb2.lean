/-
  What the reference's bounds are. Conditions: the numbers are small.
-/
import Derived.Test.YtcehaojohfbfkaaDoorRb
import Derived.Test.YtcehaojohfbfkaaDoorPr
namespace Go.Proofs.YtcehaojohfbfkaaDoor
set_option linter.unusedSimpArgs false
set_option linter.unusedVariables false
open Go.RowKit Proj
set_option maxRecDepth 20000 in
set_option maxHeartbeats 4000000 in
theorem refBound1_any (A : Option Addr) (n c : Nat) (ls : List (List Int)) (R : Option Addr) (cr : Nat) (rs : List (Int × Int)) (B : Option Addr) (m d : Nat) (b : List Int) (w : World) (ha : RdR w A n ls) (hr : RdP w R n rs) (hb : Rd w B m (iv b))
    (hn : n ≤ 1000) (hm : m ≤ 64) (hL : LinesOk ls m) (hS : ∀ l ∈ ls, some0 l) (hR : PairsOk rs) (hB : ∀ y ∈ b, ab y ≤ 1000) :
    Calls Tryd.prog 33 #[.int .i64 1, .slice A n c, .slice R n cr, .slice B m d] w fun e w' => e = .returned (.int .i64 (bound 1 ls rs b)) ∧ Below w.heap.size w w' := by
  have HLa := Lib.hid ha.len
  have HLr := Lib.hid hr.len
  have HL := Lib.hid hL
  have HS0 := Lib.hid hS
  have HR := Lib.hid hR
  have HB := Lib.hid hB
  clear hL hS hR hB
  go_enter Tryd.func33, Tryd.ntmps33
  go_wp2_with fail
  go_loopw [9, 10] (fun o j wr => ∃ k : Nat, k ≤ n ∧ j = .int .i64 k ∧ o = .int .i64 (bound 1 (ls.take k) (rs.take k) b) ∧ Below w.heap.size w wr) (fun _ j _ => n - (intOf j).toNat)
  case atStart => exact ⟨0, Nat.zero_le _, rfl, by simp [bound], Below.refl _ _⟩
  case round =>
    obtain ⟨k, hk, rfl, rfl, hbw0⟩ := hrel
    by_cases hlt : k < n
    · obtain ⟨ad, L, c', rfl, hc, hlc, hcm, hrl⟩ := (ha.below hbw0).row k (by have := HLa.out; omega)
      obtain ⟨rd, rfl, hr0, hr1⟩ := (hr.below hbw0).get k (by have := HLr.out; omega)
      have HS := Lib.hid (bound_step 1 b ls rs k (by have := HLa.out; omega) (by have := HLr.out; omega))
      have HM := Lib.hid (List.getElem_mem (show k < ls.length by have := HLa.out; omega))
      have HMr := Lib.hid (HR.out _ (List.getElem_mem (show k < rs.length by have := HLr.out; omega)))
      generalize ls[k]'(by have := HLa.out; omega) = l at *
      generalize rs[k]'(by have := HLr.out; omega) = r at *
      obtain ⟨lo, hi⟩ := r
      dsimp only at *
      have HLL := Lib.hid (show l.length ≤ m by have := HL.out.len l HM.out; omega)
      go_wp2_with fail
      have hS0 : Below wr.heap.size wr wr.drew := (Below.refl _ wr).drew
      refine wp_region_T 13 (by kernel_rfl) ?_
      -- region 5: 14 operations, tail from 13
      refine WpT.take (i := 0) rfl (by kernel_rfl) (fun _ _ _ h => h) (.inl ⟨by rfl, fun w hSw => by clear hSw; go_simp; (try go_bits); (try rw [if_pos (by omega)]); (try with_reducible rfl)⟩) ((Below.refl _ _).drew) ?_
      try simp only [Act.put, List.setIfInBounds_toArray, List.set_cons_zero, List.set_cons_succ]
      refine WpT.take (i := 1) rfl (by kernel_rfl) (fun _ _ _ h => h) (.inl ⟨by rfl, fun w hSw => by clear hSw; go_simp; (try go_bits); (try rw [if_pos (by omega)]); (try with_reducible rfl)⟩) ((Below.refl _ _).drew) ?_
      try simp only [Act.put, List.setIfInBounds_toArray, List.set_cons_zero, List.set_cons_succ]
      refine WpT.take (i := 2) rfl (by kernel_rfl) (fun _ _ _ h => h) (.inl ⟨by rfl, fun w hSw => by clear hSw; go_simp; (try go_bits); (try rw [if_pos (by omega)]); (try with_reducible rfl)⟩) ((Below.refl _ _).drew) ?_
      try simp only [Act.put, List.setIfInBounds_toArray, List.set_cons_zero, List.set_cons_succ]
      refine WpT.take (i := 3) rfl (by kernel_rfl) (fun _ _ _ h => h) (.inl ⟨by rfl, fun w hSw => by clear hSw; go_simp; (try go_bits); (try rw [if_pos (by omega)]); (try with_reducible rfl)⟩) ((Below.refl _ _).drew) ?_
      try simp only [Act.put, List.setIfInBounds_toArray, List.set_cons_zero, List.set_cons_succ]
      refine WpT.take (i := 4) rfl (by kernel_rfl) (fun _ _ _ h => h) (.inl ⟨by rfl, fun w hSw => by clear hSw; go_simp; (try go_bits); (try rw [if_pos (by omega)]); (try with_reducible rfl)⟩) ((Below.refl _ _).drew) ?_
      try simp only [Act.put, List.setIfInBounds_toArray, List.set_cons_zero, List.set_cons_succ]
      refine WpT.take (i := 5) rfl (by kernel_rfl) (fun _ _ _ h => h) (yields_load rfl rfl rfl (by kernel_rfl) (by assumption)) ((Below.refl _ _).drew) ?_
      try simp only [Act.put, List.setIfInBounds_toArray, List.set_cons_zero, List.set_cons_succ]
      refine WpT.take (i := 6) rfl (by kernel_rfl) (fun _ _ _ h => h) (.inl ⟨by rfl, fun w hSw => by clear hSw; go_simp; (try go_bits); (try rw [if_pos (by omega)]); (try with_reducible rfl)⟩) ((Below.refl _ _).drew) ?_
      try simp only [Act.put, List.setIfInBounds_toArray, List.set_cons_zero, List.set_cons_succ]
      refine WpT.take (i := 7) rfl (by kernel_rfl) (fun _ _ _ h => h) (.inl ⟨by rfl, fun w hSw => by clear hSw; go_simp; (try go_bits); (try rw [if_pos (by omega)]); (try with_reducible rfl)⟩) ((Below.refl _ _).drew) ?_
      try simp only [Act.put, List.setIfInBounds_toArray, List.set_cons_zero, List.set_cons_succ]
      refine WpT.take (i := 8) rfl (by kernel_rfl) (fun _ _ _ h => h) (.inl ⟨by rfl, fun w hSw => by clear hSw; go_simp; (try go_bits); (try rw [if_pos (by omega)]); (try with_reducible rfl)⟩) ((Below.refl _ _).drew) ?_
      try simp only [Act.put, List.setIfInBounds_toArray, List.set_cons_zero, List.set_cons_succ]
      refine WpT.take (i := 9) rfl (by kernel_rfl) (fun _ _ _ h => h) (yields_pair rfl rfl rfl (by kernel_rfl) (by kernel_rfl) (by assumption) (by assumption)) ((Below.refl _ _).drew) ?_
      try simp only [Act.put, List.setIfInBounds_toArray, List.set_cons_zero, List.set_cons_succ]
      refine WpT.take (i := 10) rfl (by kernel_rfl) (fun _ _ _ h => h) (.inl ⟨by rfl, fun w hSw => by clear hSw; go_simp; (try go_bits); (try rw [if_pos (by omega)]); (try with_reducible rfl)⟩) ((Below.refl _ _).drew) ?_
      try simp only [Act.put, List.setIfInBounds_toArray, List.set_cons_zero, List.set_cons_succ]
      refine WpT.one (i := 11) rfl (by kernel_rfl) (fun K hK => ?_)
      go_simp; refine (refOne1_any L l.length c' l lo hi B m d b _ (by exact hrl.below hS0) (by exact hb.below (bstep hbw0 hS0)) HLL.out hm (HL.out.le l HM.out) (HS0.out l HM.out) HB.out HMr.out).mono ?_; rintro e w2 ⟨rfl, hb2⟩; have hS2 := bstep hS0 hb2
      refine hK _ _ (hS2) ?_; clear hK K; try simp only [Act.put, List.setIfInBounds_toArray, List.set_cons_zero, List.set_cons_succ]
      refine WpT.take (i := 12) rfl (by kernel_rfl) (fun _ _ _ h => h) (yields_max2 rfl rfl rfl rfl) (hS2) ?_
      try simp only [Act.put, List.setIfInBounds_toArray, List.set_cons_zero, List.set_cons_succ]
      refine WpT.tail (i := 13) rfl (by kernel_rfl) (by kernel_rfl) (fun K hK => ?_)
      go_simp; (try go_bits)
      refine hK _ _ ?_; clear hK K; try simp only [Act.put, List.setIfInBounds_toArray, List.set_cons_zero, List.set_cons_succ]
      refine WpT.done (by kernel_rfl) ?_ _
      go_wp2_with fail
      refine ⟨⟨k + 1, by omega, by go_num, ?_, bstep hbw0 hS2⟩, by simp [intOf]; omega⟩
      rw [HS.out]
    · obtain rfl : k = n := by omega
      have HT := Lib.hid (show ls.take k = ls by rw [List.take_of_length_le (by have := HLa.out; omega)])
      have HT2 := Lib.hid (show rs.take k = rs by rw [List.take_of_length_le (by have := HLr.out; omega)])
      rw [HT.out, HT2.out]
      go_wp2
      go_ret
      exact ⟨rfl, hbw0⟩
set_option maxRecDepth 20000 in
set_option maxHeartbeats 4000000 in
theorem refBound2_any (A : Option Addr) (n c : Nat) (ls : List (List Int)) (R : Option Addr) (cr : Nat) (rs : List (Int × Int)) (B : Option Addr) (m d : Nat) (b : List Int) (w : World) (ha : RdR w A n ls) (hr : RdP w R n rs) (hb : Rd w B m (iv b))
    (hn : n ≤ 1000) (hm : m ≤ 64) (hL : LinesOk ls m) (hS : ∀ l ∈ ls, some0 l) (hR : PairsOk rs) (hB : ∀ y ∈ b, ab y ≤ 1000) :
    Calls Tryd.prog 33 #[.int .i64 2, .slice A n c, .slice R n cr, .slice B m d] w fun e w' => e = .returned (.int .i64 (bound 2 ls rs b)) ∧ Below w.heap.size w w' := by
  have HLa := Lib.hid ha.len
  have HLr := Lib.hid hr.len
  have HL := Lib.hid hL
  have HS0 := Lib.hid hS
  have HR := Lib.hid hR
  have HB := Lib.hid hB
  clear hL hS hR hB
  go_enter Tryd.func33, Tryd.ntmps33
  go_wp2_with fail
  go_loopw [9, 10] (fun o j wr => ∃ k : Nat, k ≤ n ∧ j = .int .i64 k ∧ o = .int .i64 (bound 2 (ls.take k) (rs.take k) b) ∧ Below w.heap.size w wr) (fun _ j _ => n - (intOf j).toNat)
  case atStart => exact ⟨0, Nat.zero_le _, rfl, by simp [bound], Below.refl _ _⟩
  case round =>
    obtain ⟨k, hk, rfl, rfl, hbw0⟩ := hrel
    by_cases hlt : k < n
    · obtain ⟨ad, L, c', rfl, hc, hlc, hcm, hrl⟩ := (ha.below hbw0).row k (by have := HLa.out; omega)
      obtain ⟨rd, rfl, hr0, hr1⟩ := (hr.below hbw0).get k (by have := HLr.out; omega)
      have HS := Lib.hid (bound_step 2 b ls rs k (by have := HLa.out; omega) (by have := HLr.out; omega))
      have HM := Lib.hid (List.getElem_mem (show k < ls.length by have := HLa.out; omega))
      have HMr := Lib.hid (HR.out _ (List.getElem_mem (show k < rs.length by have := HLr.out; omega)))
      generalize ls[k]'(by have := HLa.out; omega) = l at *
      generalize rs[k]'(by have := HLr.out; omega) = r at *
      obtain ⟨lo, hi⟩ := r
      dsimp only at *
      have HLL := Lib.hid (show l.length ≤ m by have := HL.out.len l HM.out; omega)
      go_wp2_with fail
      have hS0 : Below wr.heap.size wr wr.drew := (Below.refl _ wr).drew
      refine wp_region_T 13 (by kernel_rfl) ?_
      -- region 5: 14 operations, tail from 13
      refine WpT.take (i := 0) rfl (by kernel_rfl) (fun _ _ _ h => h) (.inl ⟨by rfl, fun w hSw => by clear hSw; go_simp; (try go_bits); (try rw [if_pos (by omega)]); (try with_reducible rfl)⟩) ((Below.refl _ _).drew) ?_
      try simp only [Act.put, List.setIfInBounds_toArray, List.set_cons_zero, List.set_cons_succ]
      refine WpT.take (i := 1) rfl (by kernel_rfl) (fun _ _ _ h => h) (.inl ⟨by rfl, fun w hSw => by clear hSw; go_simp; (try go_bits); (try rw [if_pos (by omega)]); (try with_reducible rfl)⟩) ((Below.refl _ _).drew) ?_
      try simp only [Act.put, List.setIfInBounds_toArray, List.set_cons_zero, List.set_cons_succ]
      refine WpT.take (i := 2) rfl (by kernel_rfl) (fun _ _ _ h => h) (.inl ⟨by rfl, fun w hSw => by clear hSw; go_simp; (try go_bits); (try rw [if_pos (by omega)]); (try with_reducible rfl)⟩) ((Below.refl _ _).drew) ?_
      try simp only [Act.put, List.setIfInBounds_toArray, List.set_cons_zero, List.set_cons_succ]
      refine WpT.take (i := 3) rfl (by kernel_rfl) (fun _ _ _ h => h) (.inl ⟨by rfl, fun w hSw => by clear hSw; go_simp; (try go_bits); (try rw [if_pos (by omega)]); (try with_reducible rfl)⟩) ((Below.refl _ _).drew) ?_
      try simp only [Act.put, List.setIfInBounds_toArray, List.set_cons_zero, List.set_cons_succ]
      refine WpT.take (i := 4) rfl (by kernel_rfl) (fun _ _ _ h => h) (.inl ⟨by rfl, fun w hSw => by clear hSw; go_simp; (try go_bits); (try rw [if_pos (by omega)]); (try with_reducible rfl)⟩) ((Below.refl _ _).drew) ?_
      try simp only [Act.put, List.setIfInBounds_toArray, List.set_cons_zero, List.set_cons_succ]
      refine WpT.take (i := 5) rfl (by kernel_rfl) (fun _ _ _ h => h) (yields_load rfl rfl rfl (by kernel_rfl) (by assumption)) ((Below.refl _ _).drew) ?_
      try simp only [Act.put, List.setIfInBounds_toArray, List.set_cons_zero, List.set_cons_succ]
      refine WpT.take (i := 6) rfl (by kernel_rfl) (fun _ _ _ h => h) (.inl ⟨by rfl, fun w hSw => by clear hSw; go_simp; (try go_bits); (try rw [if_pos (by omega)]); (try with_reducible rfl)⟩) ((Below.refl _ _).drew) ?_
      try simp only [Act.put, List.setIfInBounds_toArray, List.set_cons_zero, List.set_cons_succ]
      refine WpT.take (i := 7) rfl (by kernel_rfl) (fun _ _ _ h => h) (.inl ⟨by rfl, fun w hSw => by clear hSw; go_simp; (try go_bits); (try rw [if_pos (by omega)]); (try with_reducible rfl)⟩) ((Below.refl _ _).drew) ?_
      try simp only [Act.put, List.setIfInBounds_toArray, List.set_cons_zero, List.set_cons_succ]
      refine WpT.take (i := 8) rfl (by kernel_rfl) (fun _ _ _ h => h) (.inl ⟨by rfl, fun w hSw => by clear hSw; go_simp; (try go_bits); (try rw [if_pos (by omega)]); (try with_reducible rfl)⟩) ((Below.refl _ _).drew) ?_
      try simp only [Act.put, List.setIfInBounds_toArray, List.set_cons_zero, List.set_cons_succ]
      refine WpT.take (i := 9) rfl (by kernel_rfl) (fun _ _ _ h => h) (yields_pair rfl rfl rfl (by kernel_rfl) (by kernel_rfl) (by assumption) (by assumption)) ((Below.refl _ _).drew) ?_
      try simp only [Act.put, List.setIfInBounds_toArray, List.set_cons_zero, List.set_cons_succ]
      refine WpT.take (i := 10) rfl (by kernel_rfl) (fun _ _ _ h => h) (.inl ⟨by rfl, fun w hSw => by clear hSw; go_simp; (try go_bits); (try rw [if_pos (by omega)]); (try with_reducible rfl)⟩) ((Below.refl _ _).drew) ?_
      try simp only [Act.put, List.setIfInBounds_toArray, List.set_cons_zero, List.set_cons_succ]
      refine WpT.one (i := 11) rfl (by kernel_rfl) (fun K hK => ?_)
      go_simp; refine (refOne2_any L l.length c' l lo hi B m d b _ (by exact hrl.below hS0) (by exact hb.below (bstep hbw0 hS0)) HLL.out hm (HL.out.le l HM.out) (HS0.out l HM.out) HB.out HMr.out).mono ?_; rintro e w2 ⟨rfl, hb2⟩; have hS2 := bstep hS0 hb2
      refine hK _ _ (hS2) ?_; clear hK K; try simp only [Act.put, List.setIfInBounds_toArray, List.set_cons_zero, List.set_cons_succ]
      refine WpT.take (i := 12) rfl (by kernel_rfl) (fun _ _ _ h => h) (yields_max2 rfl rfl rfl rfl) (hS2) ?_
      try simp only [Act.put, List.setIfInBounds_toArray, List.set_cons_zero, List.set_cons_succ]
      refine WpT.tail (i := 13) rfl (by kernel_rfl) (by kernel_rfl) (fun K hK => ?_)
      go_simp; (try go_bits)
      refine hK _ _ ?_; clear hK K; try simp only [Act.put, List.setIfInBounds_toArray, List.set_cons_zero, List.set_cons_succ]
      refine WpT.done (by kernel_rfl) ?_ _
      go_wp2_with fail
      refine ⟨⟨k + 1, by omega, by go_num, ?_, bstep hbw0 hS2⟩, by simp [intOf]; omega⟩
      rw [HS.out]
    · obtain rfl : k = n := by omega
      have HT := Lib.hid (show ls.take k = ls by rw [List.take_of_length_le (by have := HLa.out; omega)])
      have HT2 := Lib.hid (show rs.take k = rs by rw [List.take_of_length_le (by have := HLr.out; omega)])
      rw [HT.out, HT2.out]
      go_wp2
      go_ret
      exact ⟨rfl, hbw0⟩
set_option maxRecDepth 20000 in
set_option maxHeartbeats 4000000 in
theorem refBound3_any (A : Option Addr) (n c : Nat) (ls : List (List Int)) (R : Option Addr) (cr : Nat) (rs : List (Int × Int)) (B : Option Addr) (m d : Nat) (b : List Int) (w : World) (ha : RdR w A n ls) (hr : RdP w R n rs) (hb : Rd w B m (iv b))
    (hn : n ≤ 1000) (hm : m ≤ 64) (hL : LinesOk ls m) (hS : ∀ l ∈ ls, some0 l) (hR : PairsOk rs) (hB : ∀ y ∈ b, ab y ≤ 1000) :
    Calls Tryd.prog 33 #[.int .i64 3, .slice A n c, .slice R n cr, .slice B m d] w fun e w' => e = .returned (.int .i64 (bound 3 ls rs b)) ∧ Below w.heap.size w w' := by
  have HLa := Lib.hid ha.len
  have HLr := Lib.hid hr.len
  have HL := Lib.hid hL
  have HS0 := Lib.hid hS
  have HR := Lib.hid hR
  have HB := Lib.hid hB
  clear hL hS hR hB
  go_enter Tryd.func33, Tryd.ntmps33
  go_wp2_with fail
  go_loopw [9, 10] (fun o j wr => ∃ k : Nat, k ≤ n ∧ j = .int .i64 k ∧ o = .int .i64 (bound 3 (ls.take k) (rs.take k) b) ∧ Below w.heap.size w wr) (fun _ j _ => n - (intOf j).toNat)
  case atStart => exact ⟨0, Nat.zero_le _, rfl, by simp [bound], Below.refl _ _⟩
  case round =>
    obtain ⟨k, hk, rfl, rfl, hbw0⟩ := hrel
    by_cases hlt : k < n
    · obtain ⟨ad, L, c', rfl, hc, hlc, hcm, hrl⟩ := (ha.below hbw0).row k (by have := HLa.out; omega)
      obtain ⟨rd, rfl, hr0, hr1⟩ := (hr.below hbw0).get k (by have := HLr.out; omega)
      have HS := Lib.hid (bound_step 3 b ls rs k (by have := HLa.out; omega) (by have := HLr.out; omega))
      have HM := Lib.hid (List.getElem_mem (show k < ls.length by have := HLa.out; omega))
      have HMr := Lib.hid (HR.out _ (List.getElem_mem (show k < rs.length by have := HLr.out; omega)))
      generalize ls[k]'(by have := HLa.out; omega) = l at *
      generalize rs[k]'(by have := HLr.out; omega) = r at *
      obtain ⟨lo, hi⟩ := r
      dsimp only at *
      have HLL := Lib.hid (show l.length ≤ m by have := HL.out.len l HM.out; omega)
      go_wp2_with fail
      have hS0 : Below wr.heap.size wr wr.drew := (Below.refl _ wr).drew
      refine wp_region_T 13 (by kernel_rfl) ?_
      -- region 5: 14 operations, tail from 13
      refine WpT.take (i := 0) rfl (by kernel_rfl) (fun _ _ _ h => h) (.inl ⟨by rfl, fun w hSw => by clear hSw; go_simp; (try go_bits); (try rw [if_pos (by omega)]); (try with_reducible rfl)⟩) ((Below.refl _ _).drew) ?_
      try simp only [Act.put, List.setIfInBounds_toArray, List.set_cons_zero, List.set_cons_succ]
      refine WpT.take (i := 1) rfl (by kernel_rfl) (fun _ _ _ h => h) (.inl ⟨by rfl, fun w hSw => by clear hSw; go_simp; (try go_bits); (try rw [if_pos (by omega)]); (try with_reducible rfl)⟩) ((Below.refl _ _).drew) ?_
      try simp only [Act.put, List.setIfInBounds_toArray, List.set_cons_zero, List.set_cons_succ]
      refine WpT.take (i := 2) rfl (by kernel_rfl) (fun _ _ _ h => h) (.inl ⟨by rfl, fun w hSw => by clear hSw; go_simp; (try go_bits); (try rw [if_pos (by omega)]); (try with_reducible rfl)⟩) ((Below.refl _ _).drew) ?_
      try simp only [Act.put, List.setIfInBounds_toArray, List.set_cons_zero, List.set_cons_succ]
      refine WpT.take (i := 3) rfl (by kernel_rfl) (fun _ _ _ h => h) (.inl ⟨by rfl, fun w hSw => by clear hSw; go_simp; (try go_bits); (try rw [if_pos (by omega)]); (try with_reducible rfl)⟩) ((Below.refl _ _).drew) ?_
      try simp only [Act.put, List.setIfInBounds_toArray, List.set_cons_zero, List.set_cons_succ]
      refine WpT.take (i := 4) rfl (by kernel_rfl) (fun _ _ _ h => h) (.inl ⟨by rfl, fun w hSw => by clear hSw; go_simp; (try go_bits); (try rw [if_pos (by omega)]); (try with_reducible rfl)⟩) ((Below.refl _ _).drew) ?_
      try simp only [Act.put, List.setIfInBounds_toArray, List.set_cons_zero, List.set_cons_succ]
      refine WpT.take (i := 5) rfl (by kernel_rfl) (fun _ _ _ h => h) (yields_load rfl rfl rfl (by kernel_rfl) (by assumption)) ((Below.refl _ _).drew) ?_
      try simp only [Act.put, List.setIfInBounds_toArray, List.set_cons_zero, List.set_cons_succ]
      refine WpT.take (i := 6) rfl (by kernel_rfl) (fun _ _ _ h => h) (.inl ⟨by rfl, fun w hSw => by clear hSw; go_simp; (try go_bits); (try rw [if_pos (by omega)]); (try with_reducible rfl)⟩) ((Below.refl _ _).drew) ?_
      try simp only [Act.put, List.setIfInBounds_toArray, List.set_cons_zero, List.set_cons_succ]
      refine WpT.take (i := 7) rfl (by kernel_rfl) (fun _ _ _ h => h) (.inl ⟨by rfl, fun w hSw => by clear hSw; go_simp; (try go_bits); (try rw [if_pos (by omega)]); (try with_reducible rfl)⟩) ((Below.refl _ _).drew) ?_
      try simp only [Act.put, List.setIfInBounds_toArray, List.set_cons_zero, List.set_cons_succ]
      refine WpT.take (i := 8) rfl (by kernel_rfl) (fun _ _ _ h => h) (.inl ⟨by rfl, fun w hSw => by clear hSw; go_simp; (try go_bits); (try rw [if_pos (by omega)]); (try with_reducible rfl)⟩) ((Below.refl _ _).drew) ?_
      try simp only [Act.put, List.setIfInBounds_toArray, List.set_cons_zero, List.set_cons_succ]
      refine WpT.take (i := 9) rfl (by kernel_rfl) (fun _ _ _ h => h) (yields_pair rfl rfl rfl (by kernel_rfl) (by kernel_rfl) (by assumption) (by assumption)) ((Below.refl _ _).drew) ?_
      try simp only [Act.put, List.setIfInBounds_toArray, List.set_cons_zero, List.set_cons_succ]
      refine WpT.take (i := 10) rfl (by kernel_rfl) (fun _ _ _ h => h) (.inl ⟨by rfl, fun w hSw => by clear hSw; go_simp; (try go_bits); (try rw [if_pos (by omega)]); (try with_reducible rfl)⟩) ((Below.refl _ _).drew) ?_
      try simp only [Act.put, List.setIfInBounds_toArray, List.set_cons_zero, List.set_cons_succ]
      refine WpT.one (i := 11) rfl (by kernel_rfl) (fun K hK => ?_)
      go_simp; refine (refOne3_any L l.length c' l lo hi B m d b _ (by exact hrl.below hS0) (by exact hb.below (bstep hbw0 hS0)) HLL.out hm (HL.out.le l HM.out) (HS0.out l HM.out) HB.out HMr.out).mono ?_; rintro e w2 ⟨rfl, hb2⟩; have hS2 := bstep hS0 hb2
      refine hK _ _ (hS2) ?_; clear hK K; try simp only [Act.put, List.setIfInBounds_toArray, List.set_cons_zero, List.set_cons_succ]
      refine WpT.take (i := 12) rfl (by kernel_rfl) (fun _ _ _ h => h) (yields_max2 rfl rfl rfl rfl) (hS2) ?_
      try simp only [Act.put, List.setIfInBounds_toArray, List.set_cons_zero, List.set_cons_succ]
      refine WpT.tail (i := 13) rfl (by kernel_rfl) (by kernel_rfl) (fun K hK => ?_)
      go_simp; (try go_bits)
      refine hK _ _ ?_; clear hK K; try simp only [Act.put, List.setIfInBounds_toArray, List.set_cons_zero, List.set_cons_succ]
      refine WpT.done (by kernel_rfl) ?_ _
      go_wp2_with fail
      refine ⟨⟨k + 1, by omega, by go_num, ?_, bstep hbw0 hS2⟩, by simp [intOf]; omega⟩
      rw [HS.out]
    · obtain rfl : k = n := by omega
      have HT := Lib.hid (show ls.take k = ls by rw [List.take_of_length_le (by have := HLa.out; omega)])
      have HT2 := Lib.hid (show rs.take k = rs by rw [List.take_of_length_le (by have := HLr.out; omega)])
      rw [HT.out, HT2.out]
      go_wp2
      go_ret
      exact ⟨rfl, hbw0⟩
end Go.Proofs.YtcehaojohfbfkaaDoor
