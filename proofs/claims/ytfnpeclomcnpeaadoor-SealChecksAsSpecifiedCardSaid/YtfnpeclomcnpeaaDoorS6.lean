/-
  The law SealBlindsApart, walked. Condition: the table of constants reads as the program lays it.
-/
import Derived.Test.YtfnpeclomcnpeaaDoorSs
namespace Go.Proofs.YtfnpeclomcnpeaaDoor
set_option linter.unusedSimpArgs false
set_option linter.unusedVariables false
open Go.RowKit Ring Sha
theorem short_true {l : List ByteArray} {m : Int} (h : shortB l m = true) : (∀ s ∈ l, s.size ≤ 300) ∧ (l.length : Int) ≤ m := by
  unfold shortB at h
  rw [Bool.and_eq_true, List.all_eq_true] at h
  exact ⟨fun s hs => by simpa using h.1 s hs, by simpa using h.2⟩
theorem eql_bool (X : Bool) (w : World) : (binOp .eql 4 (.bool X) (.bool X)).run Tryd.prog w = .ok (.bool true) w := by cases X <;> kernel_rfl
theorem neq_bool (X : Bool) (w : World) : (binOp .neq 4 (.bool X) (.bool X)).run Tryd.prog w = .ok (.bool false) w := by cases X <;> kernel_rfl
set_option maxRecDepth 20000 in
set_option maxHeartbeats 8000000 in
theorem walkSealBlindsApart (s0 s1 : ByteArray) (A : Option Addr) (n c : Nat) (la : List ByteArray) (B : Option Addr) (m d : Nat) (lb : List ByteArray) (w : World)
    (f0 : s0.size ≤ maxLen) (f1 : s1.size ≤ maxLen) (x2 : n ≤ c) (y2 : c ≤ maxLen) (z2 : la.length = n) (ha : Rd w A n (sv la)) (e2 : ∀ s ∈ la, s.size ≤ maxLen)
    (x3 : m ≤ d) (y3 : d ≤ maxLen) (z3 : lb.length = m) (hb : Rd w B m (sv lb)) (e3 : ∀ s ∈ lb, s.size ≤ maxLen) (hg : GCon w) :
    Calls Tryd.prog 6 #[.string s0, .string s1, .slice A n c, .slice B m d] w fun e w' => e = .returned (.bool true) ∧ Below w.heap.size w w' := by
  have HG := Lib.hid hg
  have hn := Nat.le_trans x2 y2
  have hm := Nat.le_trans x3 y3
  have HS2 := Lib.hid (short_any A n c la 8 w hn ha e2)
  have HS3 := Lib.hid (short_any B m d lb 8 w hm hb e3)
  have HT2 := Lib.hid (fun h => short_true (l := la) (m := 8) h)
  have HT3 := Lib.hid (fun h => short_true (l := lb) (m := 8) h)
  generalize shortB la 8 = S2 at *
  generalize shortB lb 8 = S3 at *
  have HZ2 := Lib.hid z2
  have HZ3 := Lib.hid z3
  unfold maxLen at f0 f1 hn hm
  clear x2 y2 x3 y3 e2 e3 z2 z3 hg
  by_cases c0 : s0.size ≤ 300
  · have d0 : decide ((300 : Int) < s0.size) = false := by simp; omega
    by_cases c1 : s1.size ≤ 300
    · have d1 : decide ((300 : Int) < s1.size) = false := by simp; omega
      cases S2
      · go_enter Tryd.func6, Tryd.ntmps6
        go_wp2_with fail
        refine HS2.out.mono ?_
        rintro e w1 ⟨rfl, rfl⟩
        go_wp2_with fail
        refine (sanity_any _ HG.out).mono ?_
        rintro e w1 ⟨rfl, hb1⟩
        go_wp2_with fail
        go_ret
        exact ⟨rfl, hb1⟩
      cases S3
      · go_enter Tryd.func6, Tryd.ntmps6
        go_wp2_with fail
        refine HS2.out.mono ?_
        rintro e w1 ⟨rfl, rfl⟩
        go_wp2_with fail
        refine HS3.out.mono ?_
        rintro e w1 ⟨rfl, rfl⟩
        go_wp2_with fail
        refine (sanity_any _ HG.out).mono ?_
        rintro e w1 ⟨rfl, hb1⟩
        go_wp2_with fail
        go_ret
        exact ⟨rfl, hb1⟩
      obtain ⟨p2, q2⟩ := HT2.out rfl
      obtain ⟨p3, q3⟩ := HT3.out rfl
      have HP2 := Lib.hid p2
      have HP3 := Lib.hid p3
      have hn8 : n ≤ 8 := by have := HZ2.out; omega
      have hm8 : m ≤ 8 := by have := HZ3.out; omega
      clear p2 p3 q2 q3 HT2 HT3
      have hb1 : Hid (∀ W, Rd W A n (sv la) → GCon W → Calls Tryd.prog 27 #[.string s0, .slice A n c] W fun e w' => e = .returned (.agg (bv (blindL s0 la)).toArray) ∧ Below W.heap.size W w') := Lib.hid (fun W hr hg => blind_any s0 A n c la W (by omega) (fun s hs => by have := HP2.out s hs; omega) (by omega) hr hg)
      have hb2 : Hid (∀ W, Rd W B m (sv lb) → GCon W → Calls Tryd.prog 27 #[.string s1, .slice B m d] W fun e w' => e = .returned (.agg (bv (blindL s1 lb)).toArray) ∧ Below W.heap.size W w') := Lib.hid (fun W hr hg => blind_any s1 B m d lb W (by omega) (fun s hs => by have := HP3.out s hs; omega) (by omega) hr hg)
      have ho1 : Hid (∀ (D : List UInt8) W, D.length = 16 → Rd W A n (sv la) → GCon W → Calls Tryd.prog 28 #[.agg (bv D).toArray, .string s0, .slice A n c] W fun e w' => e = .returned (.bool (decide (blindL s0 la = D))) ∧ Below W.heap.size W w') := Lib.hid (fun D W hD hr hg => opens_any D hD s0 A n c la W (by omega) (fun s hs => by have := HP2.out s hs; omega) (by omega) hr hg)
      have ho2 : Hid (∀ (D : List UInt8) W, D.length = 16 → Rd W B m (sv lb) → GCon W → Calls Tryd.prog 28 #[.agg (bv D).toArray, .string s1, .slice B m d] W fun e w' => e = .returned (.bool (decide (blindL s1 lb = D))) ∧ Below W.heap.size W w') := Lib.hid (fun D W hD hr hg => opens_any D hD s1 B m d lb W (by omega) (fun s hs => by have := HP3.out s hs; omega) (by omega) hr hg)
      have HL1 := Lib.hid (length_blindL s0 la)
      have HL2 := Lib.hid (length_blindL s1 lb)
      generalize blindL s0 la = D1 at *
      generalize blindL s1 lb = D2 at *
      have ho11 : Hid (∀ W, Rd W A n (sv la) → GCon W → Calls Tryd.prog 28 #[.agg (bv D1).toArray, .string s0, .slice A n c] W fun e w' => e = .returned (.bool true) ∧ Below W.heap.size W w') := Lib.hid (fun W hr hg => by have := ho1.out D1 W HL1.out hr hg; rwa [show decide (D1 = D1) = true by simp] at this)
      have ho22 : Hid (∀ W, Rd W B m (sv lb) → GCon W → Calls Tryd.prog 28 #[.agg (bv D2).toArray, .string s1, .slice B m d] W fun e w' => e = .returned (.bool true) ∧ Below W.heap.size W w') := Lib.hid (fun W hr hg => by have := ho2.out D2 W HL2.out hr hg; rwa [show decide (D2 = D2) = true by simp] at this)
      have ho21 : Hid (∀ W, Rd W B m (sv lb) → GCon W → Calls Tryd.prog 28 #[.agg (bv D1).toArray, .string s1, .slice B m d] W fun e w' => e = .returned (.bool (decide (D1 = D2))) ∧ Below W.heap.size W w') := Lib.hid (fun W hr hg => by have := ho2.out D1 W HL1.out hr hg; rwa [show decide (D2 = D1) = decide (D1 = D2) by rw [decide_eq_decide]; exact eq_comm] at this)
      have ho12 : Hid (∀ W, Rd W A n (sv la) → GCon W → Calls Tryd.prog 28 #[.agg (bv D2).toArray, .string s0, .slice A n c] W fun e w' => e = .returned (.bool (decide (D1 = D2))) ∧ Below W.heap.size W w') := Lib.hid (fun W hr hg => ho1.out D2 W HL2.out hr hg)
      have heq : ∀ W, (binOp .eql 44 (.agg (bv D1).toArray) (.agg (bv D2).toArray)).run Tryd.prog W = .ok (.bool (decide (D1 = D2))) W := fun W => eql_Di D1 D2 HL1.out HL2.out W
      generalize decide (D1 = D2) = E at *
      have hxx := eql_bool E
      have HX1 := Lib.hid (show (bv D1).toArray.size = 16 by simp [HL1.out])
      have HX2 := Lib.hid (show (bv D2).toArray.size = 16 by simp [HL2.out])
      have H16 := Lib.hid (show zero16.size = 16 by simp [zero16])
      clear ho1 ho2 HL1 HL2
      have hz := zero_16
      go_enter Tryd.func6, Tryd.ntmps6
      go_wp2_with fail
      refine HS2.out.mono ?_
      rintro e w1 ⟨rfl, rfl⟩
      go_wp2_with fail
      refine HS3.out.mono ?_
      rintro e w1 ⟨rfl, rfl⟩
      clear HS2 HS3
      go_wp2_with fail
      refine (hb1.out _ ha HG.out).mono ?_
      rintro e w2 ⟨rfl, hbA⟩
      go_upto_region 4 with (first
        | (refine wpList_allocR rfl rfl (zero_16 _) ?_; intro w3 g3 hg3 hbk3 hbB hlt3; have Hg3 := Lib.hid hg3; clear hg3)
        | (refine wpList_storeRow (g := g3) (o := 0) (vs := (bv D1).toArray) rfl rfl rfl rfl hbk3 (by rw [HX1.out, H16.out]; decide) (by rw [HX1.out]; kernel_rfl) (all_bv _) ?_))
      have q9 := hbk3.all (bv D1).toArray (by rw [HX1.out, H16.out])
      have hbS : Below w2.heap.size w2 (w3.setCells g3 0 (bv D1).toArray.toList) := below_setCells hbB (by have := Hg3.out; omega) 0 _
      clear hbB hbk3 hlt3
      generalize w3.setCells g3 0 (bv D1).toArray.toList = wY at *
      have hb0 := bstep hbA hbS
      clear hbA hbS
      go_wp2_with fail
      refine (hb2.out _ (hb.below hb0) (HG.out.below hb0)).mono ?_
      rintro e w4 ⟨rfl, hbA⟩
      replace q9 := q9.below hbA
      replace hb0 := bstep hb0 hbA
      clear hbA
      go_wp2_with (first
        | (refine wpList_allocR rfl rfl (zero_16 _) ?_; intro w5 g5 hg5 hbk5 hbB hlt5; have Hg5 := Lib.hid hg5; clear hg5)
        | (refine wpList_storeRow (g := g5) (o := 0) (vs := (bv D2).toArray) rfl rfl rfl rfl hbk5 (by rw [HX2.out, H16.out]; decide) (by rw [HX2.out]; kernel_rfl) (all_bv _) ?_))
      have q10 := hbk5.all (bv D2).toArray (by rw [HX2.out, H16.out])
      have hbS : Below w4.heap.size w4 (w5.setCells g5 0 (bv D2).toArray.toList) := below_setCells hbB (by have := Hg5.out; omega) 0 _
      clear hbB hbk5 hlt5
      generalize w5.setCells g5 0 (bv D2).toArray.toList = wZ at *
      replace q9 := q9.below hbS
      replace hb0 := bstep hb0 hbS
      clear hbS
      have haZ := ha.below hb0
      have hbZ := hb.below hb0
      have hgZ := HG.out.below hb0
      have hS0 : Below wZ.heap.size wZ wZ.drew := (Below.refl _ wZ).drew
      refine wp_region_T 33 (by kernel_rfl) ?_
      -- region 5: 34 operations, tail from 33
      refine WpT.one (i := 0) rfl (by kernel_rfl) (fun K hK => ?_)
      go_simp; refine (sanity_any _ (hgZ.below hS0)).mono ?_; rintro e w6 ⟨rfl, hb6⟩; have hS6 := bstep hS0 hb6
      refine hK _ _ (hS6) ?_; clear hK K; try simp only [Act.put, List.setIfInBounds_toArray, List.set_cons_zero, List.set_cons_succ]
      refine WpT.take (i := 1) rfl (by kernel_rfl) (fun _ _ _ h => h) (.inl ⟨by rfl, fun w hSw => by clear hSw; go_simp; (try go_bits); (try rw [if_pos (by omega)]); (try with_reducible rfl)⟩) (hS6) ?_
      try simp only [Act.put, List.setIfInBounds_toArray, List.set_cons_zero, List.set_cons_succ]
      refine WpT.take (i := 2) rfl (by kernel_rfl) (fun _ _ _ h => h) (yields_blkW (by rfl) rfl rfl (by kernel_rfl) (by rw [HX1.out]; kernel_rfl) q9) (hS6) ?_
      try simp only [Act.put, List.setIfInBounds_toArray, List.set_cons_zero, List.set_cons_succ]
      refine WpT.take (i := 3) rfl (by kernel_rfl) (fun _ _ _ h => h) (.inl ⟨by rfl, fun w hSw => by clear hSw; go_simp; (try go_bits); (try rw [if_pos (by omega)]); (try with_reducible rfl)⟩) (hS6) ?_
      try simp only [Act.put, List.setIfInBounds_toArray, List.set_cons_zero, List.set_cons_succ]
      refine WpT.take (i := 4) rfl (by kernel_rfl) (fun _ _ _ h => h) (.inl ⟨by rfl, fun w hSw => by clear hSw; go_simp; (try go_bits); (try rw [if_pos (by omega)]); (try with_reducible rfl)⟩) (hS6) ?_
      try simp only [Act.put, List.setIfInBounds_toArray, List.set_cons_zero, List.set_cons_succ]
      refine WpT.one (i := 5) rfl (by kernel_rfl) (fun K hK => ?_)
      go_simp; refine (ho11.out _ (haZ.below hS6) (hgZ.below hS6)).mono ?_; rintro e w7 ⟨rfl, hb7⟩; have hS7 := bstep hS6 hb7
      refine hK _ _ (hS7) ?_; clear hK K; try simp only [Act.put, List.setIfInBounds_toArray, List.set_cons_zero, List.set_cons_succ]
      refine WpT.take (i := 6) rfl (by kernel_rfl) (fun _ _ _ h => h) (.inl ⟨by rfl, fun w hSw => by clear hSw; go_simp; (try go_bits); (try rw [if_pos (by omega)]); (try with_reducible rfl)⟩) (hS7) ?_
      try simp only [Act.put, List.setIfInBounds_toArray, List.set_cons_zero, List.set_cons_succ]
      refine WpT.take (i := 7) rfl (by kernel_rfl) (fun _ _ _ h => h) (.inl ⟨by rfl, fun w hSw => by clear hSw; go_simp; (try go_bits); (try rw [if_pos (by omega)]); (try with_reducible rfl)⟩) (hS7) ?_
      try simp only [Act.put, List.setIfInBounds_toArray, List.set_cons_zero, List.set_cons_succ]
      refine WpT.take (i := 8) rfl (by kernel_rfl) (fun _ _ _ h => h) (yields_blkW (by rfl) rfl rfl (by kernel_rfl) (by rw [HX2.out]; kernel_rfl) q10) (hS7) ?_
      try simp only [Act.put, List.setIfInBounds_toArray, List.set_cons_zero, List.set_cons_succ]
      refine WpT.take (i := 9) rfl (by kernel_rfl) (fun _ _ _ h => h) (.inl ⟨by rfl, fun w hSw => by clear hSw; go_simp; (try go_bits); (try rw [if_pos (by omega)]); (try with_reducible rfl)⟩) (hS7) ?_
      try simp only [Act.put, List.setIfInBounds_toArray, List.set_cons_zero, List.set_cons_succ]
      refine WpT.take (i := 10) rfl (by kernel_rfl) (fun _ _ _ h => h) (.inl ⟨by rfl, fun w hSw => by clear hSw; go_simp; (try go_bits); (try rw [if_pos (by omega)]); (try with_reducible rfl)⟩) (hS7) ?_
      try simp only [Act.put, List.setIfInBounds_toArray, List.set_cons_zero, List.set_cons_succ]
      refine WpT.one (i := 11) rfl (by kernel_rfl) (fun K hK => ?_)
      go_simp; refine (ho22.out _ (hbZ.below hS7) (hgZ.below hS7)).mono ?_; rintro e w8 ⟨rfl, hb8⟩; have hS8 := bstep hS7 hb8
      refine hK _ _ (hS8) ?_; clear hK K; try simp only [Act.put, List.setIfInBounds_toArray, List.set_cons_zero, List.set_cons_succ]
      refine WpT.take (i := 12) rfl (by kernel_rfl) (fun _ _ _ h => h) (.inl ⟨by rfl, fun w hSw => by clear hSw; go_simp; (try go_bits); (try rw [if_pos (by omega)]); (try with_reducible rfl)⟩) (hS8) ?_
      try simp only [Act.put, List.setIfInBounds_toArray, List.set_cons_zero, List.set_cons_succ]
      refine WpT.take (i := 13) rfl (by kernel_rfl) (fun _ _ _ h => h) (.inl ⟨by rfl, fun w hSw => by clear hSw; go_simp; (try go_bits); (try rw [if_pos (by omega)]); (try with_reducible rfl)⟩) (hS8) ?_
      try simp only [Act.put, List.setIfInBounds_toArray, List.set_cons_zero, List.set_cons_succ]
      refine WpT.take (i := 14) rfl (by kernel_rfl) (fun _ _ _ h => h) (yields_blkW (by rfl) rfl rfl (by kernel_rfl) (by rw [HX1.out]; kernel_rfl) q9) (hS8) ?_
      try simp only [Act.put, List.setIfInBounds_toArray, List.set_cons_zero, List.set_cons_succ]
      refine WpT.take (i := 15) rfl (by kernel_rfl) (fun _ _ _ h => h) (.inl ⟨by rfl, fun w hSw => by clear hSw; go_simp; (try go_bits); (try rw [if_pos (by omega)]); (try with_reducible rfl)⟩) (hS8) ?_
      try simp only [Act.put, List.setIfInBounds_toArray, List.set_cons_zero, List.set_cons_succ]
      refine WpT.take (i := 16) rfl (by kernel_rfl) (fun _ _ _ h => h) (.inl ⟨by rfl, fun w hSw => by clear hSw; go_simp; (try go_bits); (try rw [if_pos (by omega)]); (try with_reducible rfl)⟩) (hS8) ?_
      try simp only [Act.put, List.setIfInBounds_toArray, List.set_cons_zero, List.set_cons_succ]
      refine WpT.take (i := 18) rfl (by kernel_rfl) (fun _ _ _ h => h) (yields_blkW (by rfl) rfl rfl (by kernel_rfl) (by rw [HX1.out]; kernel_rfl) q9) (hS8) ?_
      try simp only [Act.put, List.setIfInBounds_toArray, List.set_cons_zero, List.set_cons_succ]
      refine WpT.take (i := 19) rfl (by kernel_rfl) (fun _ _ _ h => h) (yields_blkW (by rfl) rfl rfl (by kernel_rfl) (by rw [HX2.out]; kernel_rfl) q10) (hS8) ?_
      try simp only [Act.put, List.setIfInBounds_toArray, List.set_cons_zero, List.set_cons_succ]
      refine WpT.take (i := 20) rfl (by kernel_rfl) (fun _ _ _ h => h) (.inl ⟨by rfl, fun w hSw => by clear hSw; go_simp; (try go_bits); (try rw [if_pos (by omega)]); (try with_reducible rfl)⟩) (hS8) ?_
      try simp only [Act.put, List.setIfInBounds_toArray, List.set_cons_zero, List.set_cons_succ]
      refine WpT.one (i := 17) rfl (by kernel_rfl) (fun K hK => ?_)
      go_simp; refine (ho21.out _ (hbZ.below hS8) (hgZ.below hS8)).mono ?_; rintro e w9 ⟨rfl, hb9⟩; have hS9 := bstep hS8 hb9
      refine hK _ _ (hS9) ?_; clear hK K; try simp only [Act.put, List.setIfInBounds_toArray, List.set_cons_zero, List.set_cons_succ]
      refine WpT.take (i := 21) rfl (by kernel_rfl) (fun _ _ _ h => h) (.inl ⟨by rfl, fun w hSw => by clear hSw; go_simp; (try go_bits); (try rw [if_pos (by omega)]); (try with_reducible rfl)⟩) (hS9) ?_
      try simp only [Act.put, List.setIfInBounds_toArray, List.set_cons_zero, List.set_cons_succ]
      refine WpT.take (i := 22) rfl (by kernel_rfl) (fun _ _ _ h => h) (.inl ⟨by rfl, fun w hSw => by clear hSw; go_simp; (try go_bits); (try rw [if_pos (by omega)]); (try with_reducible rfl)⟩) (hS9) ?_
      try simp only [Act.put, List.setIfInBounds_toArray, List.set_cons_zero, List.set_cons_succ]
      refine WpT.take (i := 23) rfl (by kernel_rfl) (fun _ _ _ h => h) (.inl ⟨by rfl, fun w hSw => by clear hSw; go_simp; (try go_bits); (try rw [if_pos (by omega)]); (try with_reducible rfl)⟩) (hS9) ?_
      try simp only [Act.put, List.setIfInBounds_toArray, List.set_cons_zero, List.set_cons_succ]
      refine WpT.take (i := 24) rfl (by kernel_rfl) (fun _ _ _ h => h) (yields_blkW (by rfl) rfl rfl (by kernel_rfl) (by rw [HX2.out]; kernel_rfl) q10) (hS9) ?_
      try simp only [Act.put, List.setIfInBounds_toArray, List.set_cons_zero, List.set_cons_succ]
      refine WpT.take (i := 25) rfl (by kernel_rfl) (fun _ _ _ h => h) (.inl ⟨by rfl, fun w hSw => by clear hSw; go_simp; (try go_bits); (try rw [if_pos (by omega)]); (try with_reducible rfl)⟩) (hS9) ?_
      try simp only [Act.put, List.setIfInBounds_toArray, List.set_cons_zero, List.set_cons_succ]
      refine WpT.take (i := 26) rfl (by kernel_rfl) (fun _ _ _ h => h) (.inl ⟨by rfl, fun w hSw => by clear hSw; go_simp; (try go_bits); (try rw [if_pos (by omega)]); (try with_reducible rfl)⟩) (hS9) ?_
      try simp only [Act.put, List.setIfInBounds_toArray, List.set_cons_zero, List.set_cons_succ]
      refine WpT.take (i := 28) rfl (by kernel_rfl) (fun _ _ _ h => h) (yields_blkW (by rfl) rfl rfl (by kernel_rfl) (by rw [HX1.out]; kernel_rfl) q9) (hS9) ?_
      try simp only [Act.put, List.setIfInBounds_toArray, List.set_cons_zero, List.set_cons_succ]
      refine WpT.take (i := 29) rfl (by kernel_rfl) (fun _ _ _ h => h) (yields_blkW (by rfl) rfl rfl (by kernel_rfl) (by rw [HX2.out]; kernel_rfl) q10) (hS9) ?_
      try simp only [Act.put, List.setIfInBounds_toArray, List.set_cons_zero, List.set_cons_succ]
      refine WpT.take (i := 30) rfl (by kernel_rfl) (fun _ _ _ h => h) (.inl ⟨by rfl, fun w hSw => by clear hSw; go_simp; (try go_bits); (try rw [if_pos (by omega)]); (try with_reducible rfl)⟩) (hS9) ?_
      try simp only [Act.put, List.setIfInBounds_toArray, List.set_cons_zero, List.set_cons_succ]
      refine WpT.one (i := 27) rfl (by kernel_rfl) (fun K hK => ?_)
      go_simp; refine (ho12.out _ (haZ.below hS9) (hgZ.below hS9)).mono ?_; rintro e w10 ⟨rfl, hb10⟩; have hS10 := bstep hS9 hb10
      refine hK _ _ (hS10) ?_; clear hK K; try simp only [Act.put, List.setIfInBounds_toArray, List.set_cons_zero, List.set_cons_succ]
      refine WpT.take (i := 31) rfl (by kernel_rfl) (fun _ _ _ h => h) (.inl ⟨by rfl, fun w hSw => by clear hSw; go_simp; (try go_bits); (try rw [if_pos (by omega)]); (try with_reducible rfl)⟩) (hS10) ?_
      try simp only [Act.put, List.setIfInBounds_toArray, List.set_cons_zero, List.set_cons_succ]
      refine WpT.take (i := 32) rfl (by kernel_rfl) (fun _ _ _ h => h) (.inl ⟨by rfl, fun w hSw => by clear hSw; go_simp; (try go_bits); (try rw [if_pos (by omega)]); (try with_reducible rfl)⟩) (hS10) ?_
      try simp only [Act.put, List.setIfInBounds_toArray, List.set_cons_zero, List.set_cons_succ]
      refine WpT.tail (i := 33) rfl (by kernel_rfl) (by kernel_rfl) (fun K hK => ?_)
      go_simp; (try go_bits)
      refine hK _ _ ?_; clear hK K; try simp only [Act.put, List.setIfInBounds_toArray, List.set_cons_zero, List.set_cons_succ]
      refine WpT.done (by kernel_rfl) ?_ _
      go_wp2_with fail
      go_ret
      exact ⟨rfl, bstep hb0 hS10⟩
    · have d1 : decide ((300 : Int) < s1.size) = true := by simp; omega
      go_enter Tryd.func6, Tryd.ntmps6
      go_wp2_with fail
      refine (sanity_any _ HG.out).mono ?_
      rintro e w1 ⟨rfl, hb1⟩
      go_wp2_with fail
      go_ret
      exact ⟨rfl, hb1⟩
  · have d0 : decide ((300 : Int) < s0.size) = true := by simp; omega
    go_enter Tryd.func6, Tryd.ntmps6
    go_wp2_with fail
    refine (sanity_any _ HG.out).mono ?_
    rintro e w1 ⟨rfl, hb1⟩
    go_wp2_with fail
    go_ret
    exact ⟨rfl, hb1⟩
end Go.Proofs.YtfnpeclomcnpeaaDoor
